/- Parts of the proof: KF KV GkOff GkSortK TryzSortF KG KH KI KJq GkAppO. -/
import Derived.Test.YteonnodafmegaaaGreatDoorOM06
import Derived.Test.YteonnodafmegaaaGreatDoorOM04
import Derived.Test.YteonnodafmegaaaGreatDoorOM03
import Derived.Test.YteonnodafmegaaaGreatDoorOM02
import Derived.ArgAppend
import Derived.Shelf.SlSortCmp.WholeK
import Derived.Shelf.SlSortCmp.NoneTotal
import Derived.Shelf.SlicesG.Cmp
import Derived.Ground.SlsfProg
import Derived.Ground.SlgcProg
import Derived.Ground.NamesProg
import Derived.Ground.Names2Prog
import Derived.Test.YteonnodafmegaaaGreatDoorProg
set_option linter.unusedSectionVars false
set_option linter.unusedVariables false
set_option linter.unusedSimpArgs false
namespace Go.Proofs.A1
open Go Go.SL
open Tryz
open Tryz renaming prog->T_
variable {B:Nat->ByteArray} {fp:List Nat} {vs:List Value} {w:World}
theorem AH :∀ {cs cur:List Value} {o:Nat},o+vs.length<=cs.length->setCells (cs++cur) o vs=setCells cs o vs++cur:=by
 induction vs with
 | nil=>intro cs cur o _;rfl
 | cons v vs ih =>
  intro cs cur o h;simp only [ZA] at h;rw [setCells,setCells,List.set_append_left _ _ (by omega),ih (by simp;omega)]
theorem yn {cs vs:List Value} (h:vs.length=cs.length):setCells cs 0 vs=vs:=by
 apply Zat;intro k;rw [jb _ _ _ _ (by omega)];by_cases hk:k<vs.length
 ·rw [if_pos (by omega),Nat.sub_zero]
 ·rw [if_neg (by omega),Zak (by omega),Zak (by omega)]
theorem OU {n sz i:Nat} {f:Nat->List Value} (hf:∀ i,i<n->(f i).length=sz) (hi:i<n) (hv:vs.length=sz):setCells (ui n f) (i*sz) vs=ui n (fun k=>if k=i then vs else f k):=by
 have:=OT (o:=0) hf hi (by omega:0+vs.length<=sz);rw [Zaw] at this;rw [this];apply nu;intro k _;show (if k=i then _ else _)=(if k=i then _ else _)
 split
 ·exact yn (by rw [hf i hi,hv])
 ·rfl
def swp (B:Nat->ByteArray) (m k:Nat):Nat->ByteArray:=fun x=>if x<k\/m-k<=x then B (m-1-x) else B x
def s1 (B:Nat->ByteArray):Nat->List Value:=fun i=>[.string (B i)]
theorem o5 (B:Nat->ByteArray) (m:Nat):∀ i,i<m->(s1 B i).length=1:=fun _ _=>rfl
theorem KU {m i:Nat} (cur:List Value) (h:i<m):(ui m (s1 B)++cur)[i*1]? = some (.string (B i)):=by
 have hl:=iT (o5 B m);rw [ZB (by rw [hl];omega)];exact AB (j:=0) (o5 B m) h (by omega)
theorem KT {B C:Nat->ByteArray} {m i:Nat} {v:ByteArray} (cur:List Value) (h:i<m) (hC:∀ k,k<m->C k=if k=i then v else B k):setCells (ui m (s1 B)++cur) (i*1) [.string v]=ui m (s1 C)++cur:=by
 have hl:=iT (o5 B m);rw [AH (by rw [hl];simp;omega),OU (o5 B m) h I];congr 1;apply nu;intro k hk;unfold s1;rw [hC k hk];split <;> rfl
set_option maxHeartbeats 4000000 in
theorem K7 {v:Value} {m:Nat} (hm:0<m) (aiC:m<=1000000) (hn:fp.Nodup) (hs:cr (hp w) [row 9 1 v m (ui m (s1 B))] fp) :
  a8 T_ 117 [v] w fp (fun _:Unit=>True) (fun _=>.tuple #[]) (fun _=>[row 9 1 v m (ui m (s1 fun i=>B (m-1-i)))]):=by
 refine ek func117 I I hn hs ?_;refine dy (by exact .here) hm ?_;rintro g cap cur rfl dd Bj hsz Qh;have hlen:=iT (o5 B m);refine Jr<|Jv I<|JI I<|JS I (by omega)<|Ja I<|Ja I<|Jn<|J0 ?_;refine aV (fun k:Nat=>2*k<=m) (fun k=>[(2,.int .i64 k),(3,.int .i64 ((m-1-k:Nat):Int)),(0,.slice (some ⟨g,0,none⟩) m cap)]) (fun k=>[bE g (.cells (ui m (s1 (swp B m k))++cur).toArray 9 (0,0))]) (fun k=>m-2*k) ?_ ?_
 ·apply aI 0 (by omega)
  case hs1=>exact .cons I (.Nh I (by congr 1;omega) (.cons I .nil))
  case ht=>
   rw [show ui m (s1 (swp B m 0))=ui m (s1 B) from nu fun i hi=>by unfold s1 swp;rw [if_neg (by omega)]]
   exact .h1 .nil
 intro k hk;have nM:=iT (o5 (swp B m k) m);by_cases aK:k<m-1-k
 ·have hj:m-1-k<m:=by omega
  have UO:k<m:=by omega
  have c1:=KU (B:=swp B m k) cur UO;have c2:=KU (B:=swp B m k) cur hj;have Mz:=KT (C:=fun i=>if i=k then swp B m k (m-1-k) else swp B m k i) cur UO (v:=swp B m k (m-1-k)) (B:=swp B m k) fun i _=>rfl
  have UW:=KT (C:=swp B m (k+1)) cur hj (v:=swp B m k k) (B:=fun i=>if i=k then swp B m k (m-1-k) else swp B m k i) fun i hi=>by
   symm;unfold swp;by_cases e1:i=m-1-k
   ·subst e1;rw [if_pos I,if_neg (by omega),if_pos (by omega)];congr 1;omega
   ·rw [if_neg e1];by_cases e2:i=k
    ·subst e2;rw [if_pos I,if_neg (by omega),if_pos (by omega)]
    ·rw [if_neg e2];by_cases e3:i<k\/m-k<=i
     ·rw [if_pos e3,if_pos (by omega)]
     ·rw [if_neg e3,if_neg (by omega)]
  have tT:k*1+1<=(ui m (s1 (swp B m k))++cur).length:=by rw [Zg,nM];omega
  have rM:(m-1-k)*1+1<=(ui m (s1 (fun i=>if i=k then swp B m k (m-1-k) else swp B m k i))++cur).length:=by rw [Zg,iT (o5 _ m)];omega
  refine Jq<|Jr<|Jv I<|Jv I<|JA I<|Jn<|Jd I fun az=>Jk<|Jq<|J0 ?_
  with_reducible refine ON 16 I ?_
  (refine fB 0 I nh nh nh (fun w ρ=>rfl) (fun w=>(aP (.of I))) I<|fB 1 I nh nh nh (fun w ρ=>rfl) (fun w=>(aP (.of I))) I<|fB 2 I nh nh nh (fun w ρ=>rfl) (fun w=>(aP (.of I))) I<|fB 3 I nh nh nh (fun w ρ=>rfl) (fun w=>(aP (.of I))) I<|fB 4 I nh nh nh (fun w ρ=>rfl) (fun w=>(aP (.of I))) I<|fB 5 I nh nh nh (fun w ρ=>rfl) (fun w=>(aP (.of I))) I<|fB 6 I nh nh nh (fun w ρ=>rfl) (fun w=>(an (.of I) (.of I) I (by omega) (by omega) aW)) I<|fB 8 I nh nh nh (fun w ρ=>rfl) (fun w=>(aP (.of I))) I<|fB 9 I nh nh nh (fun w ρ=>rfl) (fun w=>(aP (.of I))) I<|fB 10 I nh nh nh (fun w ρ=>rfl) (fun w=>(an (.of I) (.of I) I (by omega) (by omega) aW)) I ?_)
  refine bI (rs:=[7,11]) (by kernel_rfl) (by simp) (Zq.2 ⟨?_,Zq.2 ⟨?_,fun _ h=>absurd h Zo⟩⟩)
  ·refine bP I ?_
   (refine ab (ag (.of I) (At.mz .here c2)) I<|Jn ?_)
   ·refine bI (rs:=[11]) (by kernel_rfl) (by simp) (Zq.2 ⟨?_,fun _ h=>absurd h Zo⟩);refine bP I ?_
    (refine ab (ag (.of I) (At.mz .here c1)) I<|Jn ?_)
    refine fB 12 I nh nh nh (fun w ρ=>rfl) (fun w=>(an (.of I) (.of I) I (by omega) (by omega) aW)) I ?_;refine bI (rs:=[13]) (by kernel_rfl) (by simp) (Zq.2 ⟨?_,fun _ h=>absurd h Zo⟩);refine bP I ?_
    with_reducible apply ao
    case hx=>exact Is.of I
    case hy=>exact Is.of I
    case ht=>exact .here
    case hv=>exact I
    case hl=>rfl
    case h1=>exact bR I ig
    case h2=>exact tT
    case he=>exact Mz
    refine Jn ?_;refine fB 14 I nh nh nh (fun w ρ=>rfl) (fun w=>(an (.of I) (.of I) I (by omega) (by omega) aW)) I ?_;refine bI (rs:=[15]) (by kernel_rfl) (by simp) (Zq.2 ⟨?_,fun _ h=>absurd h Zo⟩);refine bP I ?_
    with_reducible apply ao
    case hx=>exact Is.of I
    case hy=>exact Is.of I
    case ht=>exact .here
    case hv=>exact I
    case hl=>rfl
    case h1=>exact bR I ig
    case h2=>exact rM
    case he=>exact UW
    refine Jn ?_
    with_reducible refine cu (by kernel_rfl) ?_
    refine Jj<|Jt<|Jg<|Jv I<|JB I (by omega)<|Jv I<|JS I (by omega)<|Ja I<|Ja I<|Jn ?_;apply aH (k+1) (by omega) (by omega)
    case hs1=>exact .cons I (.Nh I (by congr 1;omega) (.cons I .nil))
    case ht=>exact iP
  ·refine bP I ?_
   (refine ab (ag (.of I) (At.mz .here c1)) I<|Jn ?_)
   ·refine bI (rs:=[7]) (by kernel_rfl) (by simp) (Zq.2 ⟨?_,fun _ h=>absurd h Zo⟩);refine bP I ?_
    (refine ab (ag (.of I) (At.mz .here c2)) I<|Jn ?_)
    refine fB 12 I nh nh nh (fun w ρ=>rfl) (fun w=>(an (.of I) (.of I) I (by omega) (by omega) aW)) I ?_;refine bI (rs:=[13]) (by kernel_rfl) (by simp) (Zq.2 ⟨?_,fun _ h=>absurd h Zo⟩);refine bP I ?_
    with_reducible apply ao
    case hx=>exact Is.of I
    case hy=>exact Is.of I
    case ht=>exact .here
    case hv=>exact I
    case hl=>rfl
    case h1=>exact bR I ig
    case h2=>exact tT
    case he=>exact Mz
    refine Jn ?_;refine fB 14 I nh nh nh (fun w ρ=>rfl) (fun w=>(an (.of I) (.of I) I (by omega) (by omega) aW)) I ?_;refine bI (rs:=[15]) (by kernel_rfl) (by simp) (Zq.2 ⟨?_,fun _ h=>absurd h Zo⟩);refine bP I ?_
    with_reducible apply ao
    case hx=>exact Is.of I
    case hy=>exact Is.of I
    case ht=>exact .here
    case hv=>exact I
    case hl=>rfl
    case h1=>exact bR I ig
    case h2=>exact rM
    case he=>exact UW
    refine Jn ?_
    with_reducible refine cu (by kernel_rfl) ?_
    refine Jj<|Jt<|Jg<|Jv I<|JB I (by omega)<|Jv I<|JS I (by omega)<|Ja I<|Ja I<|Jn ?_;apply aH (k+1) (by omega) (by omega)
    case hs1=>exact .cons I (.Nh I (by congr 1;omega) (.cons I .nil))
    case ht=>exact iP
 ·have abZ:ui m (s1 (swp B m k))=ui m (s1 fun i=>B (m-1-i)):=nu fun i hi=>by
   unfold s1 swp;by_cases e:i<k\/m-k<=i
   ·rw [if_pos e]
   ·rw [if_neg e];show [Value.string (B i)]=[Value.string (B (m-1-i))];rw [show m-1-i=i by omega]
  rw [abZ];have D5:=iT (o5 (fun i=>B (m-1-i)) m)
  refine dC (n:=m) (cap:=cap) (sz:=1) (show Take _ (bE g (.cells ((ui m (s1 fun i=>B (m-1-i)))++cur).toArray 9 (0,0))) _ by exact .here) dd Bj (by rw [Zg,D5];rw [Zg,Qh] at hsz;omega) D5 ?_;refine Jq<|Jr<|Jv I<|Jv I<|JA I<|Jn<|Jc I fun az=>Jp<|Jl<|Jo ?_
  with_reducible first|apply aO|apply aQ
  case he=>exact qV I
  case hR=>
   intro w' aB;exact aD () trivial (by exact .h1 .nil) aB I
theorem F9 (l:List ByteArray):aR l=ui l.length (s1 fun i=>l.getD i ⟨#[]⟩):=by
 rw [Er];apply Zat;intro k;have h1:((List.range l.length).map (s1 fun i=>l.getD i ⟨#[]⟩)).flatten=(List.range l.length).map fun i=>Value.string (l.getD i ⟨#[]⟩):=by
  have:=lZ ((List.range l.length).map fun i=>Value.string (l.getD i ⟨#[]⟩))
  rw [ZaE] at this;exact this
 rw [h1];unfold aR;by_cases h:k<l.length
 ·simp [h,Zk]
 ·simp [h]
theorem OX (l:List ByteArray):aR l.reverse=ui l.length (s1 fun i=>l.getD (l.length-1-i) ⟨#[]⟩):=by
 rw [F9,List.length_reverse];apply nu;intro i hi;show [Value.string (l.reverse.getD i ⟨#[]⟩)]=[Value.string (l.getD (l.length-1-i) ⟨#[]⟩)];rw [Zk,Zk,List.getElem?_reverse hi]
theorem ED {v:Value} {l:List ByteArray} {n:Nat} (hl:n=l.length) (hm:n<=1000000) (hn:fp.Nodup) (hs:cr (hp w) [row 9 1 v n (aR l)] fp) :
  a8 T_ 117 [v] w fp (fun _:Unit=>True) (fun _=>.tuple #[]) (fun _=>[row 9 1 v n (aR l.reverse)]):=by
 subst hl;by_cases h0:0<l.length
 ·rw [F9] at hs;rw [OX];exact K7 h0 hm hn hs
 ·obtain rfl:l=[]:=Z8 (by omega);show a8 T_ 117 [v] w fp (fun _:Unit=>True) (fun _=>.tuple #[]) (fun _=>[row 9 1 v 0 []])
  replace hs:cr (hp w) [row 9 1 v 0 []] fp:=hs
  refine ek func117 I I hn hs ?_;refine aM (E:=9) (sz:=1) (by exact .here) fun a cp e=>?_;subst e;refine Jr<|Jv I<|JI I<|JS I (by omega)<|Ja I<|Ja I<|Jn<|J0 ?_;refine aV (fun _:Nat=>True) (fun k=>[(2,.q 0),(3,.q (-1)),(0,.slice a 0 cp)]) (fun k=>[row 9 1 (.slice a 0 cp) 0 []]) (fun k=>k) ?_ ?_
  ·apply aI 0 trivial
   case hs1=>exact bS
   case ht=>exact iP
  intro k _;refine Jq<|Jr<|Jv I<|Jv I<|JA I<|Jn<|Jc I fun az=>Jp<|Jl<|Jo ?_
  with_reducible first|apply aO|apply aQ
  case he=>exact qV I
  case hR=>
   intro w' aB;exact aD () trivial (by exact .h1 .nil) aB I
theorem NI {r:Ro} {s d t p:Value} (v:Int) (o:ByteArray) {y:Nat×Nat×Nat} {w:World} {fp:List Nat} (jw:fp.Nodup) (hs:cr (hp w) [bE y.1 (.cells #[.string o] 9 (0,0)),JP y.2.1 r s d t p,bE y.2.2 (.cells #[.q v] 3 (0,0))] fp)
  (h:RR w r s d t p) (hO:RO fp r s d t p) (cZ:r.ti.length<=1000000) :
  a8 T_ 221 [.z,.func (.func 222) #[] #[.pointer (some ⟨y.1,0,none⟩),.pointer (some ⟨y.2.1,0,none⟩),.pointer (some ⟨y.2.2,0,none⟩)]] w fp (fun _:Value=>True) id (fun v1=>[row 9 1 v1 (fJ r.po v (r.ti.length+1) o).length (aR (fJ r.po v (r.ti.length+1) o))]):=by
 have hlen:=kM r.po v (r.ti.length+1) o;refine ek func221 I I jw hs ?_;refine Jr<|Jy I I fun _ _=>Ja I<|Jn<|Jq<|Jr<|Jv I<|Jn<|J0 ?_;rename_i b2 rM;refine aN 9 1 ?_
 refine jR (ps:=[7]) (f:=222) (first:=[]) (cap:=[.pointer (some ⟨y.1,0,none⟩),.pointer (some ⟨y.2.1,0,none⟩),.pointer (some ⟨y.2.2,0,none⟩)]) (ι:=Nat×Value) (κ:=Empty) (rst:=[]) ?hg
  [bE y.1 (.cells #[.string o] 9 (0,0)),JP y.2.1 r s d t p,bE y.2.2 (.cells #[.q v] 3 (0,0))] (yq r.po v (r.ti.length+1) o) ?hit
  (fun k x=>x.1=k/\k<=(fJ r.po v (r.ti.length+1) o).length)
  (fun x=>[bE b2 (.cells #[x.2] 32 (0,0)),row 9 1 x.2 x.1 (aR ((fJ r.po v (r.ti.length+1) o).take x.1))])
  (fun _=>False) (fun _=>[]) (fun _=>.ret) (0,.z) ⟨I,Zi _⟩ ?ht ?hlen ?hps ?round ?kn ?kj
 case hg=>exact Is.of I
 case hit=>intro w' aB;exact EL v o h hO cZ
 case ht=>
  exact .cons (.there .here) (.h4 .nil)
 case hlen=>intro vs pC;obtain ⟨x,_,rfl⟩:=Zx.1 pC;rfl
 case hps=>intro t ht;simp only [ZS,Zo,or_false] at ht;subst ht;exact ZaA rfl
 case kj=>intro y;cases y
 case kn=>
  rintro ⟨n,v1⟩ D ⟨hq,_⟩;dsimp only [Zb,Za] at hq ⊢;rw [si] at hq;subst hq;rw [ZK];refine Jj<|Jt<|Jr<|JL I .here I<|Ja I<|Jn<|Je ?_;refine aM (E:=9) (sz:=1) (by exact Take.there .here) fun va vc e=>?_;subst e
  skip
  with_reducible first|apply aO|apply aQ
  case he=>exact dB I I
  case hR=>
   intro w' aB;exact aD (.slice va (fJ r.po v (r.ti.length+1) o).length vc) trivial (by exact .cons (.there .here) .nil) aB I
 case round=>
  rintro l2 rc W YD k ⟨n,v1⟩ vs hsz hk ⟨hq,Qv⟩ hB hF;dsimp only at hq;subst hq;obtain ⟨a,hit,rfl,Dm⟩:=EK hk;obtain ⟨aK,Mt⟩:=Zn.1 Dm;have htk:aR ((fJ r.po v (r.ti.length+1) o).take (n+1))=aR ((fJ r.po v (r.ti.length+1) o).take n)++[.string a]:=by rw [Zl aK,Mt,eT];rfl
  have nM:(aR ((fJ r.po v (r.ti.length+1) o).take n)).length=n*1:=by rw [dj,ZaN (by omega),Zar]
  dsimp only [List.zip_cons_cons,List.zip_nil_right,mV,Zb,Za];refine Jg<|Ja I<|Jn ?_
  with_reducible apply ns
  case ht=>exact .here
  refine aM (E:=9) (sz:=1) bL fun v1 v2 e=>?_;subst e;refine J0<|Jg<|JL I (.there .here) I<|Jv I<|bj (aG (.o I .nil) I I I I) I fun _ _=>?_;refine bu (.of I) (.of I) cX .here ak (by rfl) (dR I) (by rfl) (by rfl) (by rfl) ed (by rfl) ?_;intro v';refine aM (by exact .here) fun a' iz e=>?_;subst e
  (refine ao (.of I) (.of I) cX I I (dR I) (bz I) ak<|Jx<|Jj ?_)
  apply mC (n+1,.slice a' (n+1) iz)
  case ht=>exact cX
  case hx=>exact ⟨I,aK⟩
  case h2=>
   show bB _ [bE b2 (.cells #[.slice a' (n+1) iz] 32 (0,0)),row 9 1 (.slice a' (n+1) iz) (n+1) (aR ((fJ r.po v (r.ti.length+1) o).take (n+1)))] _;rw [htk];exact .h2 .nil
theorem Ni {r:Ro} {s d t p:Value} (v:Int) (o:ByteArray) {y:Nat×Nat×Nat} {w:World} {fp:List Nat} (jw:fp.Nodup) (hs:cr (hp w) [bE y.1 (.cells #[.string o] 9 (0,0)),JP y.2.1 r s d t p,bE y.2.2 (.cells #[.q v] 3 (0,0))] fp)
  (h:RR w r s d t p) (hO:RO fp r s d t p) (cZ:r.ti.length<=1000000) :
  a8 T_ 115 [.func (.func 222) #[] #[.pointer (some ⟨y.1,0,none⟩),.pointer (some ⟨y.2.1,0,none⟩),.pointer (some ⟨y.2.2,0,none⟩)]] w fp (fun _:Value=>True) id (fun v1=>[row 9 1 v1 (fJ r.po v (r.ti.length+1) o).length (aR (fJ r.po v (r.ti.length+1) o))]):=by
 refine ek func115 I I jw hs ?_;refine Jr<|Ja I<|Ji<|Jv I ?_
 with_reducible apply gA (As:=[bE y.1 (.cells #[.string o] 9 (0,0)),JP y.2.1 r s d t p,bE y.2.2 (.cells #[.q v] 3 (0,0))])
 case hr=>exact bb
 case hd=>rfl
 case ht=>exact iP
 case hc=>
  intro w1 Bv aT uV hs1 Dt _;exact NI v o uV hs1 (h.ka hO aT.keeps) (h.out hO Dt) cZ
 intro v1 _;dsimp only [id_eq,Zb,Za];refine Ja I<|Jn<|Je ?_
 with_reducible first|apply aO|apply aQ
 case he=>exact dB I I
 case hR=>
  intro w' aB;exact aD v1 trivial (by exact .h1 .nil) aB I
def Kn (r:Ro) (v:Int) (o:ByteArray):Int:=aZ [gy r,GA r v,oL r o]
def Tj (r:Ro) (v:Int) (o:ByteArray):List ByteArray:=if fJ r.po v (r.ti.length+1) o=[] then [] else (fJ r.po v (r.ti.length+1) o).reverse++[o]
def Hp (r:Ro) (v:Int) (o:ByteArray):List ByteArray:=if Kn r v o≠0 then [] else Tj r v o
theorem Rs {r:Ro} {s d t p:Value} (v:Int) (o:ByteArray) {w:World} (h:RR w r s d t p) (cZ:nk r):a8 T_ 22 [RA r s d t p,.q v,.string o] w [] (fun _:Value=>True) (fun x=>.tuple #[x,.q (Kn r v o)]) (fun x=>[row 9 1 x (Hp r v o).length (aR (Hp r v o))]):=by
 obtain ⟨h1,h2,h3,h4⟩:=h.one;have ajB:=cZ.2.2;have gr:∀ w',aJ [] w w'->aj T_ 34 [.agg #[.int .i64 r.lv,.int .i64 r.ma,s,d,t,p]] w' (.int .i64 (gy r)):=fun w' hk=>fj (h.keeps hk) cZ
 have hle:∀ w',aJ [] w w'->aj T_ 114 [.agg #[.q r.lv,.q r.ma,s,d,t,p],.q v] w' (.q (GA r v)):=fun w' hk=>lJ v (h.keeps hk)
 have mZ:∀ w',aJ [] w w'->aj T_ 112 [.agg #[.q r.lv,.q r.ma,s,d,t,p],.string o] w' (.q (oL r o)):=fun w' hk=>eY o (h.keeps hk)
 unfold RA;refine aS func22 I I ?_;refine Jr<|Jy I I fun _ _=>Ja I<|Ja I<|Jn<|Jq<|Jq ?_;rename_i b3 tr
 with_reducible refine cY 9 (by kernel_rfl) ?_
 (refine ar (cm .here) I<|aX bM I (fun w' aB=>(gr w' (Mem.keeps aB)))<|ar (cm .here) I<|ar k8 I<|aX bb I (fun w' aB=>(hle w' (Mem.keeps aB)))<|ar (cm .here) I<|ar k8 I<|aX bb I (fun w' aB=>(mZ w' (Mem.keeps aB)))<|eC (aG (.o I (.o I (.o I .nil))) I I I I) I I ?_)
 with_reducible refine dA I fun bq ml=>?_
 (refine ai bM I (fun w' aB=>(ee (Mem.dz aB .here I I) (bY.cons (bY.cons (bY.cons bY.nil)))))<|Ja I<|Ji<|Jv I<|JD I<|Jn<|gm I (fun az=>?_) fun az=>?_;refine Jr<|Jv I<|Ja I<|Ja I<|Jn<|Ju ?_;rotate_left;refine Jk<|Jr<|ab (cm (.there .here)) I<|Jv I<|Jv I ?_;rotate_right)
 ·have e1:Hp r v o=[]:=if_pos az;rw [e1];refine aN 9 1 ?_
  with_reducible first|apply aO|apply aQ
  case he=>exact gH I I I
  case hR=>
   intro w' aB;exact aD (.z) trivial (by exact .h1 .nil) aB I
 have e1:Hp r v o=Tj r v o:=if_neg az;have e0:aZ [gy r,GA r v,oL r o]=0:=Zp.1 az;have e2:Kn r v o=0:=e0;clear az;rw [e1,e2];refine JN ef I (fun w1 aT=>wA v o (h.keeps aT.keeps)) ?_;intro y _;dsimp only [id_eq,Zb,Za]
 skip
 with_reducible apply gA (As:=[bE y.1 (.cells #[.string o] 9 (0,0)),JP y.2.1 r s d t p,bE y.2.2 (.cells #[.q v] 3 (0,0))])
 case hr=>exact bM
 case hd=>rfl
 case ht=>exact iP
 case hc=>
  intro w1 Bv aT uV hs1 Dt _;exact Ni v o uV hs1 (h.keeps aT.keeps) (h.out (md:=[]) RO.nil (fun b hb=>Dt b hb)) (by omega)
 intro v1 _;have hlen:=kM r.po v (r.ti.length+1) o;dsimp only [id_eq,Zb,Za];refine aM (E:=9) (sz:=1) (by exact .here) fun va vc e=>?_;subst e;unfold Tj;generalize hL:fJ r.po v (r.ti.length+1) o=L at hlen ⊢
 (refine Ja I<|Jn<|Jq<|Jr<|Jv I<|JI I<|JC I<|Jn<|gm I (fun az=>?_) fun az=>?_;refine Jr<|Ja I<|Ja I<|Jn<|Ju ?_;rotate_left;refine Jk<|Jr<|Jv I ?_;rotate_right)
 ·have Ml:L=[]:=Z8 (by omega);rw [if_pos Ml];refine aN 9 1 ?_
  with_reducible first|apply aO|apply aQ
  case he=>exact gH I I I
  case hR=>
   intro w' aB;exact aD (.z) trivial (by exact .h1 .nil) aB I
 have hnn:¬ L=[]:=fun e=>by rw [e] at az;exact az I
 rw [if_neg hnn]
 with_reducible apply gA (As:=[row 9 1 (.slice va L.length vc) L.length (aR L)])
 case hr=>exact bM
 case hd=>rfl
 case ht=>exact iP
 case hc=>
  intro w1 Bv aT uV hs1 Dt _;exact ED I (by omega) uV hs1
 intro _ _;have ba:aR (L.reverse++[o])=aR L.reverse++[.string o]:=by rw [eT];rfl
 have hlr:(aR L.reverse).length=L.length*1:=by rw [dj,List.length_reverse,Zar]
 have D5:(L.reverse++[o]).length=L.length+1:=by simp
 rw [D5,ba];dsimp only [id_eq,Zb,Za];refine Ji<|Jv I<|Jv I<|bj (aG (.o I .nil) I I I I) I fun _ _=>?_;refine bu (.of I) (.of I) (.there .here) .here ak (by rfl) (dR I) (by rfl) (by rfl) (by rfl) ed (by rfl) ?_;intro v';refine Ja I<|Ja I<|Jn<|Je ?_
 with_reducible first|apply aO|apply aQ
 case he=>exact gH I I I
 case hR=>
  intro w' aB;exact aD v' trivial (by exact .h1 .nil) aB I
theorem HI {α:Type} {R:α->α->Prop} (ht:∀ a b c,R a b->R b c->R a c):∀ {l:List α},(∀ k (h:k+1<l.length),R l[k] l[k+1])->l.Pairwise R:=by
 intro l h;rw [Zad];intro i j hi hj yy;obtain ⟨d,rfl⟩:∃ d,j=i+1+d:=⟨j-(i+1),by omega⟩;clear yy
 induction d with
 | zero=>exact h i hj
 | succ d ih=>exact ht _ _ _ (ih (by omega)) (h (i+1+d) hj)
theorem pS {a b c d:Int}:¬ my [a,b] [c,d]<=0↔c<a\/c=a/\d<b:=by
 unfold my;by_cases h1:lr a c=0
 ·rw [if_neg (not_not_intro h1)];have:=jf.1 h1;unfold my;by_cases h2:lr b d=0
  ·rw [if_neg (not_not_intro h2)];have:=jf.1 h2;unfold my;omega
  ·rw [if_pos h2];unfold lr at h2 ⊢;split at h2 <;> split <;> first | omega | (split <;> omega)
 ·rw [if_pos h1];have yE:a≠c:=fun e=>h1 (jf.2 e)
  unfold lr;split
  ·omega
  ·split <;> omega
theorem LI {r:Ro} (hd:Ea r) (h6:r.ti.length<=6):oE r:=by
 obtain ⟨_,_,_,d1,d2,d3⟩:=hd.parts;exact ⟨d1,d2,d3,by unfold cQ;rw [Zd];exact h6⟩
structure rQ (r:Ro):Prop where
 lim:1<=r.lv/\r.lv<=3/\1<=r.ma/\r.ma<=4
 SK:Ea r
 len:r.sr.length<=8/\r.de.length<=8/\r.ti.length<=6
 sm:∀ x∈r.sr,0<=x.mx/\x.mx<r.ma
 dm:∀ x∈r.de,0<=x.mx/\x.mx<r.ma
 tm:∀ x∈r.ti,(0<=x.fr/\x.fr<r.ma)/\(0<=x.to/\x.to<r.ma)/\x.fr≠x.to
 val:jh r r.po
theorem rQ.wJ {r:Ro} (h:rQ r):oE r:=LI h.SK h.len.2.2
theorem jU {r:Ro} {m:Int}:fQ r m=0↔0<=m/\m<r.ma:=by
 unfold fQ;rw [bT (by decide)];simp
theorem Ly {r:Ro} (hd:∀ x∈r.de,0<=x.mx) (ht:∀ x∈r.ti,0<=x.fr) {s:ByteArray} (h:0<=kP r s):s∈cE r\/s∈cQ r:=by
 by_cases h1:s∈cE r
 ·exact .inl h1
 ·by_cases h2:s∈cQ r
  ·exact .inr h2
  ·unfold kP at h;have f1:=cH.2 h1;have f2:=cH.2 h2;rw [if_neg (by omega),if_neg (by omega)] at h;omega
theorem L9 {r:Ro} {s:ByteArray} (h:0<=kq r s):s∈cK r\/s∈cQ r:=by
 by_cases h1:s∈cK r
 ·exact .inl h1
 ·by_cases h2:s∈cQ r
  ·exact .inr h2
  ·unfold kq at h;have f1:=cH.2 h1;have f2:=cH.2 h2;rw [if_neg (by omega),if_neg (by omega)] at h;omega
theorem nS {r:Ro} {x:Po} (h:mX r x=0):(0<=x.lv/\x.lv<r.lv)/\0<=kP r x.ou/\0<=kq r x.ip/\kP r x.ou=kq r x.ip:=by
 unfold mX at h;rw [cz] at h;have h1:=gZ.1 (h _ Zu);have h2:=(bT (by decide)).1 (h (cn (decide (kP r x.ou<0)) 10) (by simp));have h3:=(bT (by decide)).1 (h (cn (decide (kq r x.ip<0)) 10) (by simp));have h4:=(bT (by decide)).1 (h (cn (decide (kP r x.ou≠kq r x.ip)) 24) (by simp));simp only [decide_eq_false_iff_not,ne_eq,Zp] at h2 h3 h4;exact ⟨by omega,by omega,by omega,h4⟩
theorem mf {r:Ro} {q:Int->Bool}:kD r q=false↔∀ v:Int,0<=v->v<r.lv->q v=false:=by
 unfold kD;rw [Zam];constructor
 ·intro h v h0 h1;have:=h v.toNat (ZW.2 (by omega));rw [show ((v.toNat:Nat):Int)=v by omega] at this;simpa using this
 ·intro h i hi;have:=ZW.1 hi;rw [h i (by omega) (by omega)];decide
theorem A2 {r:Ro} (h:gy r=0):rQ r:=by
 obtain ⟨h1,h2,h3,h4⟩:=ue h;obtain ⟨lp,hlen,hs,hd,ht⟩:=AU h2;have Oe:∀ x∈r.de,0<=x.mx/\x.mx<r.ma:=fun x hx=>jU.1 (hd x hx)
 have htm:∀ x∈r.ti,(0<=x.fr/\x.fr<r.ma)/\(0<=x.to/\x.to<r.ma)/\x.fr≠x.to:=fun x hx=>by
  have:=ht x hx;unfold oG at this;rw [cz] at this;have g3:=(bT (by decide)).1 (this (cn (decide (x.fr=x.to)) 24) (by simp));exact ⟨jU.1 (this _ (by simp)),jU.1 (this _ (by simp)),by simpa using g3⟩
 have hp:∀ k (hk:k<r.po.length),mX r r.po[k]=0/\¬ my [(r.po[k]).lv,eE r (r.po[k]).ou] (Fx r (if k=0 then none else r.po[k-1]?))<=0:=fun k hk=>by
  have:=dQ.1 h3 k hk;rw [sh hk] at this;by_cases e:mX r r.po[k]=0
  ·rw [if_neg (not_not_intro e)] at this;by_cases e2:my [(r.po[k]).lv,eE r (r.po[k]).ou] (Fx r (if k=0 then none else r.po[k-1]?))<=0
   ·rw [if_pos e2] at this;exact absurd this (by decide)
   ·exact ⟨e,e2⟩
  ·rw [if_pos e] at this;exact absurd this e
 have IW:∀ p∈r.po,mX r p=0:=fun p mu=>by
  obtain ⟨k,hk,rfl⟩:=Zw mu;exact (hp k hk).1
 have UK:∀ p∈r.po,0<=p.lv/\p.lv<r.lv:=fun p mu=>(nS (IW p mu)).1
 have hti:(cQ r).length=r.ti.length:=by unfold cQ;rw [Zd]
 unfold A8 at h4;rw [cz] at h4;have Yb:=mf.1 ((bT (by decide)).1 (h4 (cn (kD r fun v=>r.ti.any (Oj r v)) 33) (by simp)))
 have hop:=mf.1 ((bT (by decide)).1 (h4 (cn (kD r fun v=>r.ti.any (Lx r v)) 32) (by simp)))
 have yw:∀ v:Int,¬ (0<=v/\v<r.lv)->∀ o,eD r.po v o=none:=fun v hv o=>iX.2 fun p mu e=>hv (e.1 ▸ UK p mu)
 refine ⟨wQ h1,lp,hlen,fun x hx=>jU.1 (hs x hx),Oe,htm,?_,UK,?_,?_,?_,?_,?_⟩
 ·refine HI (R:=fun a b=>ng r a b=true) (fun a b c h h'=>zB h h') fun k hk=>?_;have:=(hp (k+1) hk).2;rw [if_neg (by omega),Zax,Zc (by omega)] at this;have:=pS.1 this;unfold ng;simp only [ZT,Zm,decide_eq_true_eq];exact this
 ·exact fun p mu=>Ly (fun x hx=>(Oe x hx).1) (fun x hx=>(htm x hx).1.1) (nS (IW p mu)).2.1
 ·exact fun p mu=>L9 (nS (IW p mu)).2.2.1
 ·exact fun p mu=>(nS (IW p mu)).2.2.2
 ·rintro v ⟨t,HY,hc⟩;rw [hti] at hc;by_cases hv:0<=v/\v<r.lv
  ·obtain ⟨x,hx,rfl⟩:=Zx.1 HY;have:=Zam.1 (Yb v hv.1 hv.2) x hx;exact this (fI.2 hc)
  ·rw [xG (yw v hv t)] at hc;cases hc
 ·intro v t HY;by_cases hv:0<=v/\v<r.lv
  ·obtain ⟨x,hx,rfl⟩:=Zx.1 HY;have:=Zam.1 (hop v hv.1 hv.2) x hx;unfold Lx at this;cases h1:gL r.po v x.nm <;> cases h2:nf r.po v x.nm <;> rw [h1,h2] at this <;> simp at this <;> simp
  ·have e1:gL r.po v t=false:=by unfold gL;rw [yw v hv t];rfl
   have e2:nf r.po v t=false:=by
    unfold nf;rw [Zam];intro p mu e;unfold yr at e;simp only [Zm,decide_eq_true_eq] at e;exact hv (e.1 ▸ UK p mu)
   rw [e1,e2]
theorem xJ {r:Ro} (hn:oE r) (h:jh r r.po) (v:Int) (o:ByteArray):j4 r v o=qy r.po v (cK r) o:=by
 have hti:(cQ r).length=r.ti.length:=by unfold cQ;rw [Zd]
 have:=Il hn h v o;rw [hti] at this;unfold j4 qy;rw [this];by_cases hm:iI r.po v 7 o∈cK r
 ·have h0:=dP hm;obtain ⟨x,hx,e⟩:=Zx.1 hm;rw [if_pos (ZR.2 ⟨x,hx,by simpa using e⟩),if_neg (by omega)]
 ·have h0:=cH.2 hm;rw [if_neg (fun e=>by
   obtain ⟨x,hx,e⟩:=ZR.1 e;exact hm (Zx.2 ⟨x,hx,by simpa using e⟩)),if_pos h0]
end Go.Proofs.A1
namespace Go.SL
open Go
def lz (E:TypeId) (sz:Nat) (v:Value) (n:Nat) (xs:List Value):bd where
 sat h fp:=xs.length=n*sz/\((fp=[]/\v=.z/\n=0) \/
  ∃ g off cap cur,fp=[g]/\v=.slice (some ⟨g,off,none⟩) n cap/\h g=some (.cells cur E (0,0))/\n<=cap/\cap<=maxLen/\off+cap*sz<=cur.size/\(cur.toList.drop off).take (n*sz)=xs)
 loc:=by
  rintro h h' fp ⟨hl,h1⟩ hb;refine ⟨hl,h1.imp id ?_⟩;rintro ⟨g,off,cap,cur,rfl,rfl,hg,r⟩;exact ⟨g,off,cap,cur,I,I,by rw [hb g (by simp)];exact hg,r⟩
 own:=by
  rintro h fp ⟨hl,h1⟩ b hb;rcases h1 with ⟨rfl,_⟩ | ⟨g,off,cap,cur,rfl,rfl,hg,_⟩
  ·cases hb
  ·rw [ZL] at hb;subst hb;exact ⟨_,hg⟩
theorem o6 {h:Nat->Option Obj} {E:TypeId} {sz:Nat} {v:Value} {n:Nat} {xs:List Value} {fp:List Nat} (hr:(row E sz v n xs).sat h fp):(lz E sz v n xs).sat h fp:=by
 obtain ⟨e,hl,h1⟩:=hr;rcases h1 with ⟨rfl,h0⟩ | ⟨g,cap,cur,rfl,hg,h2,h3,h4,h5⟩
 ·exact ⟨hl,.inl ⟨by simpa [Value.ownBlock] using e,I,h0⟩⟩
 ·exact ⟨hl,.inr ⟨g,0,cap,cur,by simpa [Value.ownBlock] using e,I,hg,h2,h3,by omega,by simpa using h5⟩⟩
section
variable {c:Cx} {D:List Nat} {sl:aL} {hs hs':List bd} {X:Act->World->Prop} {E:TypeId} {sz:Nat} {v:Value} {n:Nat} {xs:List Value}
theorem ve {A B:bd} (ht:Take hs A hs') (hc:∀ h fp,A.sat h fp->B.sat h fp) (k:Tr c D sl (B::hs') X):Tr c D sl hs X:=fun a w ba=>
 k a w (ba.heap (by
  obtain ⟨kk,fp,jw,⟨f1,f2,rfl,h1,h2⟩,hb⟩:=ba.mem.take (ht.append _);exact ⟨kk,f1++f2,jw,⟨f1,f2,I,hc _ _ h1,h2⟩,hb⟩))
theorem Hq (ht:Take hs (row E sz v n xs) hs') (k:Tr c D sl (lz E sz v n xs::hs') X):Tr c D sl hs X:=ve ht (fun _ _ h=>o6 h) k
theorem yZ (ht:Take hs (lz E sz v n xs) hs') (k:∀ a cap,v=.slice a n cap->n<=cap->cap<=maxLen->Tr c D sl hs X):Tr c D sl hs X:=fun a w ba=>by
 obtain ⟨kk,fp,jw,⟨f1,f2,rfl,⟨_,h1⟩,h2⟩,hb⟩:=ba.mem.take (ht.append _);rcases h1 with ⟨_,e,h0⟩ | ⟨g,off,cap,cur,_,e,_,hc,hm,_⟩
 ·subst h0;exact k none 0 e (Zy _) (by unfold maxLen;omega) a w ba
 ·exact k _ cap e hc hm a w ba
theorem Ce (ht:Take hs (lz E sz v n xs) hs') (hn:0<n)
  (k:∀ g off cap pre cur,v=.slice (some ⟨g,off,none⟩) n cap->pre.length=off->n<=cap->cap<=maxLen->off+cap*sz<=(pre++xs++cur).length->xs.length=n*sz->Tr c D sl (bE g (.cells (pre++xs++cur).toArray E (0,0))::hs') X):Tr c D sl hs X:=fun a w ba=>by
 obtain ⟨kk,fp,jw,⟨f1,f2,rfl,⟨hl,h1⟩,h2⟩,hb⟩:=ba.mem.take (ht.append _);rcases h1 with ⟨_,_,h0⟩ | ⟨g,off,cap,cur,rfl,e,hg,hc,hm,hfit,htk⟩
 ·omega
 ·have hsz:n*sz<=cap*sz:=Z7 _ hc;have Sh:cur.size=cur.toList.length:=by simp
  have od:cur=(cur.toList.take off++xs++cur.toList.drop (off+n*sz)).toArray:=by
   apply Array.ext';show cur.toList=_;rw [<- htk]
   conv=>lhs;rw [<- Z0 off cur.toList]
   rw [Zh];congr 1
   conv=>lhs;rw [<- Z0 (n*sz) (cur.toList.drop off)]
   rw [Zbh]
  refine k g off cap (cur.toList.take off) (cur.toList.drop (off+n*sz)) e ?_ hc hm ?_ hl a w (ba.heap ⟨kk,[g]++f2,jw,⟨[g],f2,I,⟨I,by rw [<- od];exact hg⟩,h2⟩,hb⟩)
  ·rw [Zs];omega
  ·have:=congrArg (fun x:Array Value=>x.toList.length) od
   simp only [ZaP] at this;rw [<- this];exact hfit
theorem zi {h:Nat->Option Obj} {g off cap:Nat} {pre cur:List Value} {fp:List Nat} (hb:(bE g (.cells (pre++xs++cur).toArray E (0,0))).sat h fp) (hp:pre.length=off) (hc:n<=cap) (hm:cap<=maxLen) (hfit:off+cap*sz<=(pre++xs++cur).length) (hl:xs.length=n*sz):(lz E sz (.slice (some ⟨g,off,none⟩) n cap) n xs).sat h fp:=by
 obtain ⟨e,hg⟩:=hb;refine ⟨hl,.inr ⟨g,off,cap,_,e,I,hg,hc,hm,by rw [Zbn];exact hfit,?_⟩⟩;show ((pre++xs++cur).drop off).take (n*sz)=xs;rw [Zh,<- hp,List.drop_left,<- hl,List.take_left]
theorem Cd {g off cap:Nat} {pre cur:List Value} (ht:Take hs (bE g (.cells (pre++xs++cur).toArray E (0,0))) hs') (hp:pre.length=off) (hc:n<=cap) (hm:cap<=maxLen) (hfit:off+cap*sz<=(pre++xs++cur).length) (hl:xs.length=n*sz)
  (k:Tr c D sl (lz E sz (.slice (some ⟨g,off,none⟩) n cap) n xs::hs') X):Tr c D sl hs X:=ve ht (fun _ _ h=>zi h hp hc hm hfit hl) k
theorem Cc {a:Option Addr} {cap:Nat} (ht:Take hs (lz E sz (.slice a (n+1) cap) (n+1) xs) hs') (k:Tr c D sl (lz E sz (Go.sliced a 1 (n+1) cap sz) n (xs.drop sz)::hs') X):Tr c D sl hs X:=
 ve ht (fun h fp hr=>by
  obtain ⟨hl,h1⟩:=hr;rcases h1 with ⟨_,_,h0⟩ | ⟨g,off,iz,cur,rfl,e,hg,hc,hm,hfit,htk⟩
  ·omega
  ·obtain ⟨rfl,-,rfl⟩:=Value.slice.inj e;have D5:(xs.drop sz).length=n*sz:=by rw [ZaS,hl,Zai];omega
   refine ⟨D5,.inr ?_⟩;have Xn:(cur.toList.drop (off+sz)).take (n*sz)=xs.drop sz:=by
    rw [<- htk,List.drop_take,Zbh,show (n+1)*sz-sz=n*sz by rw [Zai];omega]
   by_cases h1c:cap=1
   ·subst h1c;have Qt:n=0:=by omega
    subst Qt;refine ⟨g,off,0,cur,I,?_,hg,Zy _,by omega,by omega,?_⟩
    ·simp [Go.sliced]
    ·rw [<- Xn];simp
   ·refine ⟨g,off+sz,cap-1,cur,I,?_,hg,by omega,by omega,?_,Xn⟩
    ·simp only [Go.sliced,if_neg h1c,Zbm,Addr.add,Nat.one_mul,Zax];by_cases h0:sz=0
     ·rw [if_pos h0,h0];rfl
     ·rw [if_neg h0]
    ·have:cap*sz=(cap-1)*sz+sz:=by
      rw [<- Zai];congr 1;omega
     omega) k
end
end Go.SL
namespace Go.SL
open Go Go.Shelf Go.RowKit Go.Proofs Go.Lib Go.Sort
theorem aJ.grown {w w':World} (h:aJ [] w w'):∃ q os',w'=Go.Sort.grow (w.drewN q) os':=by
 refine ⟨w'.drawn-w.drawn,w'.heap.extract w.heap.size w'.heap.size,?_⟩;have hd:=h.dr;have hh:w'.heap=w.heap++w'.heap.extract w.heap.size w'.heap.size:=by
  apply Array.ext_getElem?;intro k;by_cases hk:k<w.heap.size
  ·rw [Array.getElem?_append_left hk];exact h.block k hk (by simp)
  ·rw [Array.getElem?_append_right (by omega),Array.getElem?_extract];have hs:=h.size;by_cases fq:k<w'.heap.size
   ·rw [if_pos (by omega)];congr 1;omega
   ·rw [if_neg (by omega),Zbs (by omega)]
 cases w';cases w;have h1:=h.os;have h2:=h.tape;have h3:=h.output;simp only at h1 h2 h3 hh hd;subst h1;subst h2;subst h3;simp only [Go.Sort.grow,World.drewN];congr 1;omega
section
variable {P:Program} {α:Type} [Inhabited α]
theorem xq {enc:α->List Value} {k:Nat} (hk:∀ x,(enc x).length=k) (l:List α):(Go.Sort.flatK enc k l.toArray).toList=(l.map enc).flatten:=by
 have sK:=js hk l;apply Zat;intro t;by_cases ht:t<l.length*k
 ·have Ob:0<k:=by
   rcases Nat.eq_zero_or_pos k with e | e
   ·rw [e] at ht;omega
   ·exact e
  have h1:t / k<l.length:=by rw [Nat.div_lt_iff_lt_mul Ob];exact ht
  have h2:t % k<k:=Nat.mod_lt _ Ob;have e3:=MU hk h1 h2 [];rw [ZJ,Nat.div_add_mod' t k] at e3;rw [e3,ZaH];have hsz:t<(Go.Sort.flatK enc k l.toArray).size:=by rw [Go.Sort.size_flatK];simpa using ht
  have e4:(Go.Sort.flatK enc k l.toArray)[t]? = some ((Go.Sort.flatK enc k l.toArray)[t]!):=by
   rw [getElem!_pos _ t hsz];exact getElem?_pos _ t hsz
  rw [e4,Go.Sort.get_flatK _ _ _ _ (by simpa using ht),getElem!_pos l.toArray (t / k) (by simpa using h1)];have h5:t % k<(enc l[t / k]).length:=by rw [hk];exact h2
  rw [Zc h5];congr 1;show (enc (l.toArray[t / k]'_))[t % k]! = _;rw [show l.toArray[t / k]'(by simpa using h1)=l[t / k] from I,getElem!_pos _ (t % k) h5]
 ·rw [Zak (by rw [ZaP,Go.Sort.size_flatK];simpa using ht),Zak (by rw [sK];omega)]
theorem CT (pre cur vs ws:List Value) (h:ws.length=vs.length):Go.Sort.putCells id pre.length ws.toArray (pre++vs++cur).toArray=(pre++ws++cur).toArray:=by
 apply Array.ext_getElem?;intro j;unfold Go.Sort.putCells;rw [Array.getElem?_mapIdx];simp only [List.getElem?_toArray,Zbn];by_cases h1:j<pre.length
 ·rw [Zh,Zh,ZB h1,ZB h1];rw [Zc h1];simp only [Zbm];rw [if_neg (by omega)]
 ·by_cases h2:j<pre.length+ws.length
  ·have e1:(pre++vs++cur)[j]? = some ((pre++vs++cur)[j]'(by simp;omega)):=Zc _;rw [e1,Zbm,if_pos (by omega)];rw [Zh,ZC (by omega),ZB (by omega),Zc (by omega)];congr 1;show ws.toArray[j-pre.length]! = _;rw [getElem!_pos ws.toArray (j-pre.length) (by simp;omega)]
   rfl
  ·rw [ZC (by simp;omega),ZC (by simp;omega)];simp only [Zg,h];cases cur[j-(pre.length+vs.length)]? with
   | none=>rfl
   | some x =>
    rw [Zbm,if_neg (by omega)]
theorem Cr {ρ:Ren} (L:SlLaysF0.n6 P ρ) {k:Nat} (aE:∀ w,(isAgg (ρ.t 24)).run P w=.ok true w) (zE:∀ w,(Go.sizeOf (ρ.t 24)).run P w=.ok k w) {enc:α->List Value} (hk:∀ x,(enc x).length=k) (h1:∀ x,∀ v∈enc x,v.oneCell'=true) {cf:α->α->Int} (hO:Go.Sort.SWO (ltOf cf))
  {g b cap:Nat} {cb:Array Value} {l:List α} {pre cur:List Value} {E:TypeId} {w:World} (eg:∀ args w,(callFunc g args).run P w=.ok (.enter g args) w) (hb:w.heap[b]? = some (.cells (pre++(l.map enc).flatten++cur).toArray E (0,0))) (hsz:l.length<4611686018427387904)
  (acV:∀ w',aJ [b] w w'->∀ x y:α,Calls P g (#[.agg (enc x).toArray,.agg (enc y).toArray]++cb) w' fun e Ah=>e=.returned (.q (cf x y))/\aJ [] w' Ah) :
  Calls P (ρ.f 6) #[.slice (some ⟨b,pre.length,none⟩) l.length cap,.func (.func g) #[] cb] w fun e w'=>
   e=.returned (.tuple #[])/\∃ l':List α,l'.Perm l/\l'.Pairwise (fun x y=>ltOf cf y x=false)/\aJ [b] w w'/\w'.heap[b]? = some (.cells (pre++(l'.map enc).flatten++cur).toArray E (0,0)):=by
 have Sl:b<w.heap.size:=(Z6.1 hb).1;have XC:∀ (m:Nat) (d:Array α) (os:Array Obj),aJ [b] w (sortWorldK enc k w b pre.length m d os):=by
  intro m d os;unfold sortWorldK putRowK;refine ⟨I,I,I,Nat.le_add_right _ _,by simp,fun q hq hne=>?_⟩;rw [Go.Sort.heap_grow_old _ _ (by simpa using hq)];have:b≠q:=fun e=>hne (by rw [e];simp)
  simp [Go.Sort.putRow,Go.Sort.mapBlock,Go.Sort.ahead,Zbk,this]
 have hC:CmpLays P g cb enc k cf b pre.length l.toArray.size w:=fun m os dk _ x y=>(acV _ (XC m dk os) x y).mono fun e w' ⟨he,xY⟩=>⟨he,xY.grown⟩
 have sK:=js hk l;have hH:HoldsK enc k w b pre.length l.toArray:=by
  intro j hj;rw [Go.Sort.size_flatK] at hj;have pF:j<l.length*k:=by simpa using hj
  refine ⟨?_,by simp [World.frozen?,hb]⟩;have h0:=xq hk l;simp only [World.cell?,hb,Option.isSome_none,ZaT,if_false,List.getElem?_toArray];rw [Zh,ZC (by omega),Zbr,ZB (by omega),<- h0,ZaH];have hs:j<(Go.Sort.flatK enc k l.toArray).size:=by rw [Go.Sort.size_flatK];exact hj
  rw [getElem!_pos _ j hs];exact getElem?_pos _ j hs
 have key:=AnyQ.slices_SortFunc L k aE zE enc hk h1 cf hO g cb b pre.length cap l.toArray w eg hC hH Sl (by simpa using hsz);refine Calls.mono key ?_;rintro e w' ⟨he,d',m,os,hp,Be,hw⟩;subst hw;obtain ⟨BZ,_,hp3⟩:=hp;have hd:List.Perm d'.toList l:=by
  rw [show (l.toArray.extract 0 l.toArray.size)=l.toArray by simp,show d'.extract 0 l.toArray.size=d' by rw [<- BZ];simp] at hp3;exact hp3
 refine ⟨he,d'.toList,hd,?_,XC m d' os,?_⟩
 ·rw [Zad];intro i j hi hj yy;rw [ZaP] at hi hj;have X7:d'.size=l.length:=by rw [BZ];simp
  have:=Be i j (Zi _) yy (by simp;omega);rw [getElem!_pos d' i hi,getElem!_pos d' j hj] at this;simpa using this
 ·unfold sortWorldK putRowK;rw [Go.Sort.heap_grow_old _ _ (by simpa using Sl)];have hpc:=CT pre cur (l.map enc).flatten (Go.Sort.flatK enc k d').toList (by
   rw [ZaP,Go.Sort.size_flatK,sK,BZ];simp)
  have Qy:=xq hk d'.toList;rw [ZaY] at Qy hpc;rw [Qy] at hpc;simp [Go.Sort.putRow,Go.Sort.mapBlock,Go.Sort.ahead,Zbk,hb,Go.Sort.onCells];simpa using hpc
end
end Go.SL
namespace Go.Proofs
open Go.Shelf
def Tryz.Et:Go.Shelf.Ren:=⟨fun | 6=>260 | 15=>245 | 14=>320 | 28=>312 | 29=>313 | 20=>349 | 21=>350 | 22=>351 | 23=>352 | 24=>353 | 25=>354 | 26=>355 | 27=>356 | 46=>376 | 47=>344 | 48=>345 | 49=>377 | 50=>378 | 57=>392 | n=>n,fun | 22=>329 | 24=>244 | 25=>332 | 3=>3 | 39=>318 | 0=>0 | 53=>381 | 55=>383 | 4=>4 | 46=>374 | 45=>373 | 50=>272 | 5=>5 | 9=>9 | 66=>409 | 70=>413 | 76=>428 | 77=>359 | n=>n,fun | n=>n⟩
theorem Tryz.Eu:Go.Proofs.SlLaysF0.n6 Tryz.prog Tryz.Et:={
 mixed:=by kernel_rfl
 f6:=⟨Tryz.f260.name,by decide,Tryz.func260.trans (congrArg some (by kernel_rfl))⟩
 f14:=⟨Tryz.f320.name,by decide,Tryz.func320.trans (congrArg some (by kernel_rfl))⟩
 f15:=Tryz.func245.trans (congrArg some (by kernel_rfl))
 f20:=⟨Tryz.f349.name,by decide,Tryz.func349.trans (congrArg some (by kernel_rfl))⟩
 f21:=⟨Tryz.f350.name,by decide,Tryz.func350.trans (congrArg some (by kernel_rfl))⟩
 f22:=⟨Tryz.f351.name,by decide,Tryz.func351.trans (congrArg some (by kernel_rfl))⟩
 f23:=⟨Tryz.f352.name,by decide,Tryz.func352.trans (congrArg some (by kernel_rfl))⟩
 f24:=⟨Tryz.f353.name,by decide,Tryz.func353.trans (congrArg some (by kernel_rfl))⟩
 f25:=⟨Tryz.f354.name,by decide,Tryz.func354.trans (congrArg some (by kernel_rfl))⟩
 f26:=⟨Tryz.f355.name,by decide,Tryz.func355.trans (congrArg some (by kernel_rfl))⟩
 f27:=⟨Tryz.f356.name,by decide,Tryz.func356.trans (congrArg some (by kernel_rfl))⟩
 f28:=Tryz.func312.trans (congrArg some (by kernel_rfl))
 f29:=Tryz.func313.trans (congrArg some (by kernel_rfl))
 f46:=⟨Tryz.f376.name,by decide,Tryz.func376.trans (congrArg some (by kernel_rfl))⟩
 f47:=Tryz.func344.trans (congrArg some (by kernel_rfl))
 f48:=Tryz.func345.trans (congrArg some (by kernel_rfl))
 f49:=⟨Tryz.f377.name,by decide,Tryz.func377.trans (congrArg some (by kernel_rfl))⟩
 f50:=⟨Tryz.f378.name,by decide,Tryz.func378.trans (congrArg some (by kernel_rfl))⟩
 f57:=⟨Tryz.f392.name,by decide,Tryz.func392.trans (congrArg some (by kernel_rfl))⟩
 t0:=Tryz.underlying0
 a0:=Tryz.isAgg0
 z0:=Tryz.sizeOf0
 v0:=Tryz.zeroValue0
 t3:=Tryz.underlying3
 a3:=Tryz.isAgg3
 z3:=Tryz.sizeOf3
 v3:=Tryz.zeroValue3
 t4:=Tryz.underlying4
 a4:=Tryz.isAgg4
 z4:=Tryz.sizeOf4
 v4:=Tryz.zeroValue4
 t5:=Tryz.underlying5
 a5:=Tryz.isAgg5
 z5:=Tryz.sizeOf5
 v5:=Tryz.zeroValue5
 t9:=Tryz.underlying9
 a9:=Tryz.isAgg9
 z9:=Tryz.sizeOf9
 v9:=Tryz.zeroValue9
 t22:=Tryz.underlying329
 a22:=Tryz.isAgg329
 z22:=Tryz.sizeOf329
 v22:=Tryz.zeroValue329
 t25:=Tryz.underlying332
 a25:=Tryz.isAgg332
 z25:=Tryz.sizeOf332
 v25:=Tryz.zeroValue332
 t39:=Tryz.underlying318
 a39:=Tryz.isAgg318
 z39:=Tryz.sizeOf318
 v39:=Tryz.zeroValue318
 t45:=Tryz.underlying373
 a45:=Tryz.isAgg373
 z45:=Tryz.sizeOf373
 v45:=Tryz.zeroValue373
 t46:=Tryz.underlying374
 a46:=Tryz.isAgg374
 z46:=Tryz.sizeOf374
 v46:=Tryz.zeroValue374
 t50:=Tryz.underlying272
 a50:=Tryz.isAgg272
 z50:=Tryz.sizeOf272
 v50:=Tryz.zeroValue272
 t53:=Tryz.underlying381
 a53:=Tryz.isAgg381
 z53:=Tryz.sizeOf381
 v53:=Tryz.zeroValue381
 t55:=Tryz.underlying383
 a55:=Tryz.isAgg383
 z55:=Tryz.sizeOf383
 v55:=Tryz.zeroValue383
 t66:=Tryz.underlying409
 a66:=Tryz.isAgg409
 z66:=Tryz.sizeOf409
 v66:=Tryz.zeroValue409
 t70:=Tryz.underlying413
 a70:=Tryz.isAgg413
 z70:=Tryz.sizeOf413
 v70:=Tryz.zeroValue413
 t76:=Tryz.underlying428
 a76:=Tryz.isAgg428
 z76:=Tryz.sizeOf428
 v76:=Tryz.zeroValue428
 t77:=Tryz.underlying359
 a77:=Tryz.isAgg359
 z77:=Tryz.sizeOf359
 v77:=Tryz.zeroValue359 }
def Tryz.Ev:Go.Shelf.Ren:=⟨fun | 6=>317 | 15=>245 | 14=>348 | 28=>312 | 29=>313 | 20=>368 | 21=>369 | 22=>370 | 23=>371 | 24=>372 | 25=>373 | 26=>374 | 27=>375 | 46=>389 | 47=>344 | 48=>345 | 49=>390 | 50=>391 | 57=>399 | n=>n,fun | 22=>39 | 24=>188 | 25=>388 | 3=>3 | 39=>318 | 0=>0 | 53=>381 | 55=>383 | 4=>4 | 46=>374 | 45=>373 | 50=>272 | 5=>5 | 9=>9 | 66=>409 | 70=>413 | 76=>428 | 77=>359 | n=>n,fun | n=>n⟩
theorem Tryz.Ew:Go.Proofs.SlLaysF0.n6 Tryz.prog Tryz.Ev:={
 mixed:=by kernel_rfl
 f6:=⟨Tryz.f317.name,by decide,Tryz.func317.trans (congrArg some (by kernel_rfl))⟩
 f14:=⟨Tryz.f348.name,by decide,Tryz.func348.trans (congrArg some (by kernel_rfl))⟩
 f15:=Tryz.func245.trans (congrArg some (by kernel_rfl))
 f20:=⟨Tryz.f368.name,by decide,Tryz.func368.trans (congrArg some (by kernel_rfl))⟩
 f21:=⟨Tryz.f369.name,by decide,Tryz.func369.trans (congrArg some (by kernel_rfl))⟩
 f22:=⟨Tryz.f370.name,by decide,Tryz.func370.trans (congrArg some (by kernel_rfl))⟩
 f23:=⟨Tryz.f371.name,by decide,Tryz.func371.trans (congrArg some (by kernel_rfl))⟩
 f24:=⟨Tryz.f372.name,by decide,Tryz.func372.trans (congrArg some (by kernel_rfl))⟩
 f25:=⟨Tryz.f373.name,by decide,Tryz.func373.trans (congrArg some (by kernel_rfl))⟩
 f26:=⟨Tryz.f374.name,by decide,Tryz.func374.trans (congrArg some (by kernel_rfl))⟩
 f27:=⟨Tryz.f375.name,by decide,Tryz.func375.trans (congrArg some (by kernel_rfl))⟩
 f28:=Tryz.func312.trans (congrArg some (by kernel_rfl))
 f29:=Tryz.func313.trans (congrArg some (by kernel_rfl))
 f46:=⟨Tryz.f389.name,by decide,Tryz.func389.trans (congrArg some (by kernel_rfl))⟩
 f47:=Tryz.func344.trans (congrArg some (by kernel_rfl))
 f48:=Tryz.func345.trans (congrArg some (by kernel_rfl))
 f49:=⟨Tryz.f390.name,by decide,Tryz.func390.trans (congrArg some (by kernel_rfl))⟩
 f50:=⟨Tryz.f391.name,by decide,Tryz.func391.trans (congrArg some (by kernel_rfl))⟩
 f57:=⟨Tryz.f399.name,by decide,Tryz.func399.trans (congrArg some (by kernel_rfl))⟩
 t0:=Tryz.underlying0
 a0:=Tryz.isAgg0
 z0:=Tryz.sizeOf0
 v0:=Tryz.zeroValue0
 t3:=Tryz.underlying3
 a3:=Tryz.isAgg3
 z3:=Tryz.sizeOf3
 v3:=Tryz.zeroValue3
 t4:=Tryz.underlying4
 a4:=Tryz.isAgg4
 z4:=Tryz.sizeOf4
 v4:=Tryz.zeroValue4
 t5:=Tryz.underlying5
 a5:=Tryz.isAgg5
 z5:=Tryz.sizeOf5
 v5:=Tryz.zeroValue5
 t9:=Tryz.underlying9
 a9:=Tryz.isAgg9
 z9:=Tryz.sizeOf9
 v9:=Tryz.zeroValue9
 t22:=Tryz.underlying39
 a22:=Tryz.isAgg39
 z22:=Tryz.sizeOf39
 v22:=Tryz.zeroValue39
 t25:=Tryz.underlying388
 a25:=Tryz.isAgg388
 z25:=Tryz.sizeOf388
 v25:=Tryz.zeroValue388
 t39:=Tryz.underlying318
 a39:=Tryz.isAgg318
 z39:=Tryz.sizeOf318
 v39:=Tryz.zeroValue318
 t45:=Tryz.underlying373
 a45:=Tryz.isAgg373
 z45:=Tryz.sizeOf373
 v45:=Tryz.zeroValue373
 t46:=Tryz.underlying374
 a46:=Tryz.isAgg374
 z46:=Tryz.sizeOf374
 v46:=Tryz.zeroValue374
 t50:=Tryz.underlying272
 a50:=Tryz.isAgg272
 z50:=Tryz.sizeOf272
 v50:=Tryz.zeroValue272
 t53:=Tryz.underlying381
 a53:=Tryz.isAgg381
 z53:=Tryz.sizeOf381
 v53:=Tryz.zeroValue381
 t55:=Tryz.underlying383
 a55:=Tryz.isAgg383
 z55:=Tryz.sizeOf383
 v55:=Tryz.zeroValue383
 t66:=Tryz.underlying409
 a66:=Tryz.isAgg409
 z66:=Tryz.sizeOf409
 v66:=Tryz.zeroValue409
 t70:=Tryz.underlying413
 a70:=Tryz.isAgg413
 z70:=Tryz.sizeOf413
 v70:=Tryz.zeroValue413
 t76:=Tryz.underlying428
 a76:=Tryz.isAgg428
 z76:=Tryz.sizeOf428
 v76:=Tryz.zeroValue428
 t77:=Tryz.underlying359
 a77:=Tryz.isAgg359
 z77:=Tryz.sizeOf359
 v77:=Tryz.zeroValue359 }
end Go.Proofs
namespace Go.Proofs.A1
open Go Go.SL Go.Shelf Go.Proofs
open Go.Proofs.Tryz
open Go.Proofs.Tryz renaming prog->T_
structure Wy where
 v:Value
 p:List Nat
 f:Nat
def Wy.cells (x:Wy):List Value:=[x.v,.q (x.f:Nat)]
def nz (p:List Nat):List Int:=p.map fun i:Nat=>(i:Int)
def gT (p:List Nat):List Value:=p.map fun i=>.q (i:Nat)
def Wj (l:List Wy):List (List Value):=l.map Wy.cells
def nJ (l:List Wy):List Value:=(Wj l).flatten
theorem zA (p:List Nat):(gT p).map (fun u=>[u])=ints (nz p):=by simp [gT,ints,nz]
theorem tJ (p:List Nat):(nz p).length=p.length:=by simp [nz]
def Wu (a b:Nat×List Nat):Int:=aZ [lr a.1 b.1,lr (a.2.length:Nat) (b.2.length:Nat),my (nz a.2) (nz b.2)]
def wl (a b:Nat×List Nat):Bool:=decide (a.1<b.1)||(decide (a.1=b.1)&&(decide (a.2.length<b.2.length)||(decide (a.2.length=b.2.length)&&lexB a.2 b.2)))
theorem xD {x y:Int}:lr x y<0↔x<y:=by
 unfold lr;split
 ·constructor <;> intro _ <;> omega
 ·split <;> constructor <;> intro _ <;> omega
theorem DF:∀ {a b:List Nat},a.length=b.length->(my (nz a) (nz b)<0↔lexB a b=true)
 | [],[],_=>by simp [nz,my,lexB]
 | [],_::_,h=>by simp at h
 | _::_,[],h=>by simp at h
 | x :: a, y :: b, h => by
  have ih:=DF (a:=a) (b:=b) (by simpa using h);show (if lr x y≠0 then lr x y else my (nz a) (nz b))<0↔_
  unfold lexB;by_cases e:(x:Int)=y
  ·rw [if_neg (not_not_intro (jf.2 e)),ih];have e':x=y:=by exact_mod_cast e
   simp [e']
  ·rw [if_pos (fun q=>e (jf.1 q)),xD]
   have e':¬ x=y:=fun q=>e (by rw [q])
   simp [e']
theorem FP (a b:Nat×List Nat):Wu a b<0↔wl a b=true:=by
 unfold Wu wl aZ;by_cases h1:(a.1:Int)=b.1
 ·rw [if_neg (not_not_intro (jf.2 h1))];have yE:a.1=b.1:=by exact_mod_cast h1
  unfold aZ;by_cases h2:((a.2.length:Nat):Int)=(b.2.length:Nat)
  ·rw [if_neg (not_not_intro (jf.2 h2))];have Ic:a.2.length=b.2.length:=by exact_mod_cast h2
   have h3:=DF Ic;unfold aZ;by_cases h4:my (nz a.2) (nz b.2)=0
   ·rw [if_neg (not_not_intro h4)];rw [h4] at h3;simp [aZ,yE,Ic];have:=h3.symm;simpa using this
   ·rw [if_pos h4,h3];simp [yE,Ic]
  ·rw [if_pos (fun q=>h2 (jf.1 q)),xD]
   have Ic:¬ a.2.length=b.2.length:=fun q=>h2 (by rw [q])
   simp [yE,Ic]
 ·rw [if_pos (fun q=>h1 (jf.1 q)),xD]
  have yE:¬ a.1=b.1:=fun q=>h1 (by rw [q])
  simp [yE]
theorem yQ (a:Nat×List Nat):wl a a=false:=by unfold wl;rw [pt];simp
theorem B6 {a b c:Nat×List Nat} (h1:wl a b=true) (h2:wl b c=true):wl a c=true:=by
 unfold wl at *;simp only [ZT,Zm,decide_eq_true_eq] at *;rcases h1 with h1 | ⟨e1,h1 | ⟨e2,h1⟩⟩ <;> rcases h2 with h2 | ⟨g1,h2 | ⟨g2,h2⟩⟩
 ·exact .inl (by omega)
 ·exact .inl (by omega)
 ·exact .inl (by omega)
 ·exact .inl (by omega)
 ·exact .inr ⟨by omega,.inl (by omega)⟩
 ·exact .inr ⟨by omega,.inl (by omega)⟩
 ·exact .inl (by omega)
 ·exact .inr ⟨by omega,.inl (by omega)⟩
 ·exact .inr ⟨by omega,.inr ⟨by omega,rp h1 h2⟩⟩
theorem JX {a b:Nat×List Nat} (h:a≠b):wl a b=true\/wl b a=true:=by
 unfold wl;simp only [ZT,Zm,decide_eq_true_eq];rcases Zaq a.1 b.1 with h1 | h1 | h1
 ·exact .inl (.inl h1)
 ·rcases Zaq a.2.length b.2.length with h2 | h2 | h2
  ·exact .inl (.inr ⟨h1,.inl h2⟩)
  ·have hne:a.2≠b.2:=fun e=>h (Prod.ext h1 e)
   rcases rq h2 hne with h3 | h3
   ·exact .inl (.inr ⟨h1,.inr ⟨h2,h3⟩⟩)
   ·exact .inr (.inr ⟨h1.symm,.inr ⟨h2.symm,h3⟩⟩)
  ·exact .inr (.inr ⟨h1.symm,.inl h2⟩)
 ·exact .inr (.inl h1)
theorem S9 {α:Type} (g:α->Nat×List Nat):Go.Sort.SWO (ltOf fun x y:α=>Wu (g x) (g y)):=by
 have e:∀ x y:α,ltOf (fun x y:α=>Wu (g x) (g y)) x y=wl (g x) (g y):=fun x y=>by
  unfold ltOf;rw [ZaQ,decide_eq_true_eq];exact FP _ _
 constructor
 ·intro x;rw [e];exact yQ _
 ·intro x y z h1 h2;rw [e] at *;exact B6 h1 h2
 ·intro x y z h1 h2;rw [e] at *;by_cases h:wl (g x) (g z)=true
  ·by_cases e1:g x=g y
   ·rw [e1,h2] at h;cases h
   ·rcases JX e1 with h3 | h3
    ·rw [h1] at h3;cases h3
    ·rw [B6 h3 h] at h2;cases h2
  ·simpa using h
variable {fp:List Nat} {w:World}
theorem W5 {v:Value} {cs:List Value} {es:List Int} (h:Rd w v 1 (cs.map fun v=>[v])) (hl:bY cs es):aj T_ 319 [v] w (.q (aZ es)):=
 W6 (by rw [<- hl.eq];exact h)
theorem Ta {v1 v2:Value} {p q:List Nat} {f1 f2:Nat} (h1:Rd w v1 1 (ints (nz p))) (h2:Rd w v2 1 (ints (nz q))) :
  aj T_ 261 [.agg #[v1,.q (f1:Nat)],.agg #[v2,.q (f2:Nat)]] w (.q (Wu (f1,p) (f2,q))):=by
 have acW:∀ w',aJ [] w w'->aj T_ 236 [v1,v2] w' (.q (my (nz p) (nz q))):=fun w' hk=>zV (h1.keeps hk) (h2.keeps hk)
 obtain ⟨a,cp,b,o,rfl,dd,bO,ha,hc⟩:=h1;rw [dw,tJ] at *;obtain ⟨a',Wg,b',o',rfl,oD,Sb,cq,hc'⟩:=h2;rw [dw,tJ] at *;have jq:=acW;refine ah func261 I I ?_;refine Jr<|Jy I I fun _ _=>Jy I I fun _ _=>Ja I<|Jn<|Jq ?_
 with_reducible refine cY 18 (by kernel_rfl) ?_
 (refine ar k6 I<|ar (gX (.there .here)) I<|ar k6 I<|ar (gX .here) I<|aX bb I (fun w' aB=>(DE _ _ w'))<|ar k6 I<|ar (gX (.there .here)) I<|ar (bZ (.of I)) I<|ar k6 I<|ar (gX .here) I<|ar (bZ (.of I)) I<|aX bb I (fun w' aB=>(DE _ _ w'))<|ar k6 I<|ar (gX (.there .here)) I<|ar k6 I<|ar (gX .here) I<|aX bb I (fun w' aB=>(jq w' (Mem.keeps aB)))<|eC (aG (.o I (.o I (.o I .nil))) I I I I) I I ?_)
 with_reducible refine dA I fun bq ml=>?_
 (refine ai bM I (fun w' aB=>(W5 (Mem.dz aB .here I I) (bY.cons (bY.cons (bY.cons bY.nil)))))<|Ja I<|Jn<|Je<|JT ?_)
 rfl
theorem S5 (l:List Wy):∀ r∈Wj l,r.length=2:=fun r hr=>by obtain ⟨x,_,rfl⟩:=Zx.1 hr;rfl
theorem pZ (l:List Wy):(nJ l).length=l.length*2:=by unfold nJ;rw [fv (S5 l)];unfold Wj;rw [Zd]
theorem Oy (a b:List Wy):nJ (a++b)=nJ a++nJ b:=by unfold nJ Wj;rw [Zv,Zaf]
def jg (lu:List Wy):bd:=iG 3 (lu.map Wy.v) (lu.map fun x=>gT x.p)
theorem Hb {lu:List Wy} (hn:fp.Nodup) (hs:cr (hp w) [jg lu] fp) {x:Wy} (hx:x∈lu):Rd w x.v 1 (ints (nz x.p)):=by
 obtain ⟨j,hj,rfl⟩:=Zw hx;have hm:Mem ⟨w,fp,0⟩ [jg lu] w:=⟨.refl _ _,fp,hn,hs,fun b hb=>.inr hb⟩
 have:=hm.wy (j:=j) (v:=(lu[j]).v) (x:=gT (lu[j]).p) .here (by simp [hj]) (by simp [hj]);rwa [zA] at this
theorem Fy {c:Cx} {hs hs':List bd} (hm:Mem c hs w) {lu:List Wy} (ht:Take hs (jg lu) hs') {x:Wy} (hx:x∈lu):Rd w x.v 1 (ints (nz x.p)):=by
 obtain ⟨j,hj,rfl⟩:=Zw hx;have:=hm.wy (j:=j) (v:=(lu[j]).v) (x:=gT (lu[j]).p) ht (by simp [hj]) (by simp [hj]);rwa [zA] at this
theorem KI {v:Value} {n:Nat} {l lu:List Wy} (jw:fp.Nodup) (hs:cr (hp w) [lz 244 2 v n (nJ l),jg lu] fp) (hn:n=l.length) (jn:∀ x∈l,x∈lu) (cZ:n<=1000000) (h1c:∀ x∈lu,x.v.oneCell'=true) :
  a8 T_ 260 [v,.func (.func 261) #[] #[]] w fp (fun l':List Wy=>l'.Perm l/\l'.Pairwise (fun x y=>wl (y.f,y.p) (x.f,x.p)=false)) (fun _=>.tuple #[]) (fun l'=>[lz 244 2 v n (nJ l'),jg lu]):=by
 obtain ⟨f1,f2,rfl,h1,h2⟩:=hs;obtain ⟨hlen,h1⟩:=h1;have UF:=(ZG.1 jw).2.1;have lp:=(ZG.1 jw).2.2;rcases h1 with ⟨rfl,rfl,h0⟩ | ⟨g,off,cap,cur,rfl,rfl,hg,kL,ke,hfit,htk⟩
 ·have nN:l=[]:=Z8 (by omega);subst nN;refine (AnyF.slices_SortFunc_none Tryz.Eu none 0 (.func (.func 261) #[] #[]) w).mono fun e w' ⟨he,hw⟩=>?_;subst hw;exact ⟨[],he,⟨.refl _,.nil⟩,.refl _ _,[]++f2,by simpa using UF,⟨[],f2,I,⟨hlen,.inl ⟨I,I,h0⟩⟩,h2⟩,fun b hb=>.inl hb⟩
 ·subst hn;have UZ:g<w.heap.size:=(Z6.1 hg).1;by_cases nN:l=[]
  ·subst nN;refine (AnyF.slices_SortFunc_none Tryz.Eu (some ⟨g,off,none⟩) cap (.func (.func 261) #[] #[]) w).mono fun e w' ⟨he,hw⟩=>?_;subst hw;exact ⟨[],he,⟨.refl _,.nil⟩,.refl _ _,[g]++f2,jw,⟨[g],f2,I,⟨hlen,.inr ⟨g,off,cap,cur,I,I,hg,kL,ke,hfit,htk⟩⟩,h2⟩,fun b hb=>.inl hb⟩
  obtain ⟨x0,Ug⟩:=List.exists_mem_of_ne_nil l nN
  let α:={x:Wy // x∈lu}
  let _:Inhabited α:=⟨⟨x0,jn x0 Ug⟩⟩
  let enc:α->List Value:=fun x=>x.1.cells
  have hle:l.length*2<=cap*2:=Z7 _ kL;have Sh:cur.size=cur.toList.length:=by simp
  have od:cur=(cur.toList.take off++nJ l++cur.toList.drop (off+l.length*2)).toArray:=by
   apply Array.ext';show cur.toList=_;rw [<- htk]
   conv=>lhs;rw [<- Z0 off cur.toList]
   rw [Zh];congr 1
   conv=>lhs;rw [<- Z0 (l.length*2) (cur.toList.drop off)]
   rw [Zbh]
  have w9:(cur.toList.take off).length=off:=by rw [Zs];omega
  generalize mY:cur.toList.take off=pre at od w9;generalize XD:cur.toList.drop (off+l.length*2)=post at od
  let la:List α:=l.attach.map fun x=>⟨x.1,jn x.1 x.2⟩
  have UL:la.map (fun x:α=>x.1)=l:=by
   show (l.attach.map fun x=>(⟨x.1,jn x.1 x.2⟩:α)).map (fun x:α=>x.1)=l
   rw [ZaE];exact List.attach_map_subtype_val l
  have Dj:∀ m:List α,(m.map enc).flatten=nJ (m.map fun x:α=>x.1):=fun m=>by
   unfold nJ Wj;rw [ZaE];rfl
  have E9:la.length=l.length:=by
   show (l.attach.map fun x=>(⟨x.1,jn x.1 x.2⟩:α)).length=_
   rw [Zd,List.length_attach]
  have rM:w.heap[g]? = some (.cells (pre++(la.map enc).flatten++post).toArray 244 (0,0)):=by rw [Dj,UL,<- od];exact hg
  have key:=Cr Tryz.Eu (k:=2) isAgg244 sizeOf244 (enc:=enc) (fun _=>rfl)
   (fun x u hu=>by
    have hx:=h1c x.1 x.2;simp only [enc,Wy.cells,ZS,Zo,or_false] at hu;rcases hu with rfl | rfl
    ·exact hx
    ·rfl)
   (S9 (fun x:α=>(x.1.f,x.1.p))) (g:=261) (b:=g) (cap:=cap) (cb:=#[]) (l:=la) (pre:=pre) (cur:=post) (E:=244) (w:=w)
   (enters_of func261 (by kernel_rfl) I) rM (by rw [E9];omega)
   (fun w' hk x y=>by
    have hp:cr (hp w') [jg lu] f2:=cr.loc h2 fun b hb=>by
     have Sl:b<w.heap.size:=by
      obtain ⟨o,ho⟩:=cr.own h2 b hb;exact kV ho
     exact hk.block b Sl (fun e=>lp g (by simp) b hb (ZL.1 e).symm)
    exact Ta (Hb UF hp x.2) (Hb UF hp y.2))
  rw [E9,w9] at key;refine Calls.mono key ?_;rintro e w' ⟨he,l',jD,hpw,hk,dK⟩;have zJ:(l'.map fun x:α=>x.1).length=l.length:=by rw [Zd,jD.length_eq,E9]
  rw [Dj] at dK;refine ⟨l'.map fun x:α=>x.1,he,⟨?_,?_⟩,hk.mono (by simp),[g]++f2,jw,⟨[g],f2,I,?_,cr.loc h2 fun b hb=>?_⟩,fun b hb=>.inl hb⟩
  ·have:=jD.map (fun x:α=>x.1)
   rwa [UL] at this
  ·rw [Zbx];refine hpw.imp fun {x y} h=>?_;unfold ltOf at h;rw [decide_eq_false_iff_not,FP] at h;simpa using h
  ·have hr:=zi (n:=l.length) (sz:=2) (cap:=cap) (fp:=[g]) (h:=hp w') ⟨I,dK⟩ w9 kL ke (by
    have:=congrArg (fun x:Array Value=>x.toList.length) od
    simp only [ZaP,Zg,pZ] at this;rw [Zg,Zg,pZ,zJ,<- this];exact hfit) (by rw [pZ,zJ])
   exact hr
  ·have Sl:b<w.heap.size:=by
    obtain ⟨o,ho⟩:=cr.own h2 b hb;exact kV ho
   exact hk.block b Sl (fun e=>lp g (by simp) b hb (ZL.1 e).symm)
end Go.Proofs.A1
namespace Go.Proofs.A1
open Go Go.SL
open Tryz
open Tryz renaming prog->T_
theorem MV {α:Type} {q:α->Bool} {l:List α} {k:Nat} (h:k<l.length) (hq:q l[k]=true):(l.filter q)[((l.take k).filter q).length]? = some l[k]:=by
 have e:l=l.take k++l[k]::l.drop (k+1):=by rw [<- Zt h,Z0]
 have:l.filter q=(l.take k).filter q++l[k]::(l.drop (k+1)).filter q:=by
  conv=>lhs;rw [e]
  rw [Zay,Zbq hq]
 rw [this,ZC (Zy _),Nat.sub_self];rfl
def Dv (r:Ro) (v m:Int) (i:Nat):Bool:=decide ((ia r i).fr=m)&&!gL r.po v (dh r i)
def gj (r:Ro) (v m:Int) (k:Nat):List Nat:=(List.range k).filter (Dv r v m)
def N5 (r:Ro) (v m:Int):List (List Value):=(gj r v m r.ti.length).map fun i=>[.q (i:Nat),.agg (ia r i).cells.toArray]
theorem vv (r:Ro) (v m:Int):(N5 r v m).length=(gj r v m r.ti.length).length:=by simp [N5]
theorem tU (r:Ro) (v m:Int) (k:Nat):gj r v m (k+1)=gj r v m k++if Dv r v m k then [k] else []:=by
 unfold gj;rw [Zbw,Zay];congr 1;by_cases h:Dv r v m k=true
 ·rw [Zbq h,if_pos h];rfl
 ·rw [List.filter_cons_of_neg h,if_neg h];rfl
theorem PV {r:Ro} {v m:Int} {k:Nat} (h:k<r.ti.length) (hq:Dv r v m k=true):(N5 r v m)[(gj r v m k).length]? = some [.q (k:Nat),.agg (ia r k).cells.toArray]:=by
 have h1:=MV (l:=List.range r.ti.length) (q:=Dv r v m) (k:=k) (by rw [Zau];exact h) (by rw [Zbj];exact hq);rw [List.take_range,Zbv (by omega),Zbj] at h1;unfold N5 gj;rw [ZE,h1];rfl
theorem ET {r:Ro} {v m:Int} {k:Nat} {vs:List Value} (h:(N5 r v m)[k]? = some vs):∃ i,(gj r v m r.ti.length)[k]? = some i/\vs=[.q (i:Nat),.agg (ia r i).cells.toArray]/\i<r.ti.length/\Dv r v m i=true:=by
 unfold N5 at h;rw [ZE,Zal] at h;obtain ⟨i,hi,rfl⟩:=h;have hm:=Z5 hi;unfold gj at hm;rw [Zr,ZW] at hm;exact ⟨i,hi,I,hm.1,hm.2⟩
variable {N:Wn} {dm:Int} {dst:Option Tmp} {g:Option (Nat×Bool)} {i:Nat} {k:IntKind} {q:Bool} {so:ByteArray} {x y:Operand}
theorem nR {r:Ro} (h:i<r.ti.length):ia r i=r.ti[i]:=by
 unfold ia;rw [Zk,Zc h];rfl
theorem lC {P:Program} {c:Cx} {sl:aL} {hs:List bd} {ty:TypeId} {pos:String} {af:Array Edge} {t u:TypeId} {a b:Int} (hx:Is sl x (.int k a)) (hy:Is sl y (.int k b)) (e:a=b) :
  di P c sl hs ⟨dst,.binOp .eql t x y u,ty,pos,af,g⟩ (.bool true):=by
 have:=lk (P:=P) (c:=c) (hs:=hs) (dst:=dst) (ty:=ty) (pos:=pos) (af:=af) (g:=g) (t:=t) (u:=u) hx hy;rwa [decide_eq_true e] at this
theorem Pr {P:Program} {c:Cx} {sl:aL} {hs:List bd} {ty:TypeId} {pos:String} {af:Array Edge} {t u:TypeId} {a b:Int} (hx:Is sl x (.int k a)) (hy:Is sl y (.int k b)) (e:a≠b) :
  di P c sl hs ⟨dst,.binOp .eql t x y u,ty,pos,af,g⟩ (.bool false):=by
 have:=lk (P:=P) (c:=c) (hs:=hs) (dst:=dst) (ty:=ty) (pos:=pos) (af:=af) (g:=g) (t:=t) (u:=u) hx hy;rwa [decide_eq_false e] at this
theorem c8 {P:Program} {c:Cx} {sl:aL} {hs:List bd} {ty:TypeId} {pos:String} {af:Array Edge} {x y z:Operand} {v u:Value} (hx:Is sl x (.bool q)) (hy:Is sl y v) (hz:Is sl z u) (e:(bif q then v else u)=Value.bool false):di P c sl hs ⟨dst,.pick x y z,ty,pos,af,g⟩ (.bool false):=e ▸ vm hx hy hz
theorem fA {P:Program} {c:Cx} {sl:aL} {hs:List bd} {ty:TypeId} {pos:String} {af:Array Edge} {x y z:Operand} {v u:Value} (hx:Is sl x (.bool q)) (hy:Is sl y v) (hz:Is sl z u) (e:(bif q then v else u)=Value.bool true):di P c sl hs ⟨dst,.pick x y z,ty,pos,af,g⟩ (.bool true):=e ▸ vm hx hy hz
theorem tM {r:Ro} {s d t p:Value} (v m:Int) {w w1:World} (h:RR w1 r s d t p) :
  a8 T_ 153 [RA r s d t p,.q v,.q m] w [] (fun _:Nat×Nat×Nat=>True) (fun x=>.func (.func 240) #[] #[.pointer (some ⟨x.1,0,none⟩),.pointer (some ⟨x.2.1,0,none⟩),.pointer (some ⟨x.2.2,0,none⟩)])
   (fun x=>[JP x.1 r s d t p,bE x.2.1 (.cells #[.q m] 3 (0,0)),bE x.2.2 (.cells #[.q v] 3 (0,0))]):=by
 obtain ⟨h1,h2,h3,h4⟩:=h.one;unfold RA;refine aS func153 I I ?_
 (refine Jr<|Jy I I fun _ _=>Jy I I fun _ _=>Jy I I fun _ _=>Ja I<|Ji<|ab (bD .nil (.o I (.o I (.o I .nil)))) I<|Ja I<|Jn<|Je ?_)
 rename_i b3 tr b4 tS b5 Ia
 with_reducible first|apply aO|apply aQ
 case he=>exact dB I I
 case hR=>
  intro w' aB;exact aD (b3,b5,b4) trivial (by exact .cons bL (.h2 .nil)) aB I
set_option maxHeartbeats 1000000 in
theorem LL {r:Ro} {s d t p:Value} {b1 b2 b3:Nat} (v m:Int) {w0 w:World} {md:List Nat} (h:RR w0 r s d t p) (hn:RO md r s d t p) (cZ:r.ti.length<=1000000) :
  Iter T_ 240 [] [.p b1,.p b2,.p b3] [JP b1 r s d t p,bE b2 (.cells #[.q m] 3 (0,0)),bE b3 (.cells #[.q v] 3 (0,0))] (N5 r v m) w0 md w:=by
 intro l fp J E hB hF jw hs hy;have hR:=h.ka hn hB;have hO:=h.out hn hF;rw [vv];have h1:=Rd.one hR.sr;have h2:=Rd.one hR.de;have h4:=Rd.one hR.po;have hti:=hR.ti;have oti:=hO.ti;obtain ⟨a,cp,b,o',rfl,dd,bO,ha,hc⟩:=hti;rw [bV] at *;unfold maxLen at bO;refine ek func240 I I jw hs ?_
 (refine Jr<|bJ I I ae<|JL I (.there .here) I<|JI I<|Jv I<|Jn<|J0 ?_)
 refine aV (fun k:Nat=>k<=r.ti.length) (fun k=>[(10,.q (k:Nat)),(9,.q (r.ti.length:Nat)),(8,.slice a r.ti.length cp),(0,.func (.yield l) #[] #[]),(1,.p b1),(2,.p b2),(3,.p b3)])
  (fun k=>[J (gj r v m k).length,JP b1 r s d (.slice a r.ti.length cp) p,bE b2 (.cells #[.q m] 3 (0,0)),bE b3 (.cells #[.q v] 3 (0,0))]) (fun k=>r.ti.length-k) ?_ ?_
 ·apply aI 0 (by omega)
  case hs1=>exact bS
  case ht=>
   exact .h4 .nil
 intro k hk;by_cases aK:k<r.ti.length
 ·have cq:=ha (fm aK);have aC:=(hc k _ (ei aK)).2;have hnb:b ∉ fp:=oti (fm aK) b (by rw [cq];rfl);unfold Ti.cells at aC;have Dq:∀ w',aJ fp w w'->aj T_ 121 [.agg #[.q r.lv,.q r.ma,s,d,.slice a r.ti.length cp,p],.q v,.string (r.ti[k]).nm] w' (.bool (gL r.po v (r.ti[k]).nm)):=fun w' hk=>rF v _ (hR.ka hO hk)
  have Bd:=nR aK;have uA:dh r k=(r.ti[k]).nm:=by unfold dh;rw [Bd]
  by_cases Bl:(r.ti[k]).fr=m
  ·cases B3:gL r.po v (r.ti[k]).nm with
   | true =>
    have Dr:∀ w',aJ fp w w'->aj T_ 121 [.agg #[.q r.lv,.q r.ma,s,d,.slice a r.ti.length cp,p],.q v,.string (r.ti[k]).nm] w' (.bool true):=fun w' hk=>B3 ▸ Dq w' hk
    have hq:Dv r v m k=false:=by unfold Dv;rw [uA,B3];simp
    have Me:gj r v m (k+1)=gj r v m k:=by rw [tU,if_neg (by rw [hq];decide),ZJ]
    (refine Jr<|JA I<|Jn<|Jq<|Jd I fun az=>Jk<|Jq<|J0<|Jr<|Jv I<|ab (fT cq az) I<|ab (jA (.of I) (eZ.DN aC hnb) I) I<|Jz I I fun _ _=>Ja I<|ao (.of I) (.of I) .here I I (fx I I I) (bz I) ak<|Ji<|bJ I I ae<|JL I .here I<|JL I cX I<|ab (lC (.of I) (.of I) Bl) I<|Jv I<|JK I I<|ab (cm bL) I<|JK I I<|JL I dD I<|JK I I<|bJ I I ae<|JK I I<|JL I .here I<|JK I I<|ai ef I (fun w' aB=>(Dr w' (Mem.keeps aB)))<|JK I I<|JH I<|ab (c8 (.of I) (.of I) (.of I) I) I<|Jv I<|iQ I I I I<|iQ I I I I<|aF I I inferInstance (fun hg br=>(bK (.of I) .here ak (by rfl))) I<|ew I I I I<|aF I I inferInstance (fun hg br=>(dN (.bF br I))) I<|ab (c8 (.of I) (.of I) (.of I) I) I<|Jn<|ch (.of I)<|Jw<|Jj<|Jt<|Jg<|JB I (by omega)<|Jv I<|Jn ?_)
    apply aH (k+1) (by omega) (by omega)
    case hs1=>exact bS
    case ht=>
     rw [Me];exact .cons (.there .here) (.cons (.there .here) (.cons (.there .here) (.cons (.there .here) .nil)))
   | false =>
    have Dr:∀ w',aJ fp w w'->aj T_ 121 [.agg #[.q r.lv,.q r.ma,s,d,.slice a r.ti.length cp,p],.q v,.string (r.ti[k]).nm] w' (.bool false):=fun w' hk=>B3 ▸ Dq w' hk
    have hq:Dv r v m k=true:=by unfold Dv;rw [uA,B3,Bd,decide_eq_true Bl];rfl
    have Me:gj r v m (k+1)=gj r v m k++[k]:=by rw [tU,if_pos hq]
    have UN:(gj r v m (k+1)).length=(gj r v m k).length+1:=by rw [Me];simp
    have Xg:=hy _ _ (PV aK hq);rw [Bd] at Xg
    (refine Jr<|JA I<|Jn<|Jq<|Jd I fun az=>Jk<|Jq<|J0<|Jr<|Jv I<|ab (fT cq az) I<|ab (jA (.of I) (eZ.DN aC hnb) I) I<|Jz I I fun _ _=>Ja I<|ao (.of I) (.of I) .here I I (fx I I I) (bz I) ak<|Ji<|bJ I I ae<|JL I .here I<|JL I cX I<|ab (lC (.of I) (.of I) Bl) I<|Jv I<|JK I I<|ab (cm bL) I<|JK I I<|JL I dD I<|JK I I<|bJ I I ae<|JK I I<|JL I .here I<|JK I I<|ai ef I (fun w' aB=>(Dr w' (Mem.keeps aB)))<|JK I I<|JH I<|ab (fA (.of I) (.of I) (.of I) I) I<|Jv I<|JK I I<|Jv I<|JK I I<|Jv I<|JK I I<|ab (cm .here) I<|JK I I ?_)
    unfold Ti.cells at Xg
    with_reducible apply yW hB hF Xg
    case hx=>exact Is.of I
    case ha=>exact .o I (.o I .nil)
    case hd=>rfl
    case ht=>exact Take.there .here
    intro q;cases q with
    | false =>
     simp only [cond_false]
     (refine JK I I<|JH I<|ab (fA (.of I) (.of I) (.of I) I) I<|Jn<|cW (.of I)<|Je<|Jm<|Jh<|Jh<|Jm ?_)
     with_reducible first|apply aO|apply aQ
     case he=>exact qV I
     case hR=>
      intro w' aB;exact aD false trivial (by exact .h1 (.cons (.there .here) (.cons (.there .here) (.cons (.there .here) .nil)))) aB I
    | true =>
     simp only [cond_true]
     (refine JK I I<|JH I<|ab (c8 (.of I) (.of I) (.of I) I) I<|Jn<|ch (.of I)<|Jw<|Jj<|Jt<|Jg<|JB I (by omega)<|Jv I<|Jn ?_)
     apply aH (k+1) (by omega) (by omega)
     case hs1=>exact bS
     case ht=>
      rw [UN];exact .h1 (.cons (.there .here) (.cons (.there .here) (.cons (.there .here) .nil)))
  ·have hq:Dv r v m k=false:=by unfold Dv;rw [Bd,decide_eq_false Bl];rfl
   have Me:gj r v m (k+1)=gj r v m k:=by rw [tU,if_neg (by rw [hq];decide),ZJ]
   (refine Jr<|JA I<|Jn<|Jq<|Jd I fun az=>Jk<|Jq<|J0<|Jr<|Jv I<|ab (fT cq az) I<|ab (jA (.of I) (eZ.DN aC hnb) I) I<|Jz I I fun _ _=>Ja I<|ao (.of I) (.of I) .here I I (fx I I I) (bz I) ak<|Ji<|bJ I I ae<|JL I .here I<|JL I cX I<|ab (Pr (.of I) (.of I) Bl) I<|Jv I<|aF I I inferInstance (fun hg br=>(bK (.of I) bL ak (by rfl))) I<|aF I I inferInstance (fun hg br=>(ag (.of I) (At.lit dD I))) I<|aF I I inferInstance (fun hg br=>(aq (.of I) ae)) I<|aF I I inferInstance (fun hg br=>(ag (.bF br I) (At.lit .here I))) I<|ew I I I I<|aF I I inferInstance (fun hg br=>(dN (.bF br I))) I<|ab (c8 (.of I) (.of I) (.of I) I) I<|Jv I<|iQ I I I I<|iQ I I I I<|aF I I inferInstance (fun hg br=>(bK (.of I) .here ak (by rfl))) I<|ew I I I I<|aF I I inferInstance (fun hg br=>(dN (.bF br I))) I<|ab (c8 (.of I) (.of I) (.of I) I) I<|Jn<|ch (.of I)<|Jw<|Jj<|Jt<|Jg<|JB I (by omega)<|Jv I<|Jn ?_)
   apply aH (k+1) (by omega) (by omega)
   case hs1=>exact bS
   case ht=>
    rw [Me];exact .cons (.there .here) (.cons (.there .here) (.cons (.there .here) (.cons (.there .here) .nil)))
 ·obtain rfl:k=r.ti.length:=by omega
  refine Jr<|JA I<|Jn<|Jq<|Jc I fun az=>Jp<|Jl<|Jo ?_
  with_reducible first|apply aO|apply aQ
  case he=>exact qV I
  case hR=>
   intro w' aB;exact aD true trivial (by exact .h4 .nil) aB I
theorem L7 (l:List Int):∀ r∈ints l,∀ u∈r,u.oneCell'=true:=fun r hr=>by obtain ⟨x,_,rfl⟩:=Zx.1 hr;exact bR rfl ig
theorem zG (l:List Int):l.map (Value.int .i64)=(ints l).flatten:=by
 induction l with
 | nil=>rfl
 | cons x l ih=>show [Value.int .i64 x]++l.map (Value.int .i64)=_;rw [ih];rfl
theorem Re {lv:Value} {l:List Int} {w:World} (h:Rd w lv 1 (ints l)) (hl:l.length<=1000) :
  a8 T_ 262 [lv] w [] (fun _:Value=>True) id (fun v=>[row 3 1 v l.length (l.map (.int .i64))]):=by
 have h':=h;obtain ⟨a,cp,b,o,rfl,dd,bO,ha,hc⟩:=h;refine aS func262 I I ?_;cases a with
 | none =>
  have nN:l=[]:=by
   cases l with
   | nil=>rfl
   | cons x r=>exact absurd (ha (by simp [ints])) (by simp)
  subst nN
  (refine Jr<|Ja I<|Jn<|Jq<|Jr<|Jv I<|ab (iv (.of I) (.of I)) I<|Jn<|cW (.of I)<|Jr<|Ja I<|Jn<|Ju ?_)
  refine aN 3 1 ?_
  with_reducible first|apply aO|apply aQ
  case he=>exact dB I I
  case hR=>
   intro w' aB;exact aD (.z) trivial (by exact .h1 .nil) aB I
 | some ad =>
  (refine Jr<|Ja I<|Jn<|Jq<|Jr<|Jv I<|ab (iv (.of I) (.of I)) I<|Jn<|ch (.of I)<|Jk<|Jr<|bj (aG .nil I I I I) I fun _ _=>Jv I ?_)
  rename_i bq ml;refine bU (g:=bq) (E:=3) (ys:=[]) 0 1 (by exact .here) I I I ?_
  with_reducible apply eX
  case hx=>exact Is.of I
  case hy=>exact Is.of I
  case ht=>exact .here
  case hsrc=>exact fun w' aB=>h'.keeps aB.keeps
  case h1=>exact L7 l
  case hz=>exact I
  case hsz=>exact I
  case hb0=>exact I
  case hb=>rw [dw];omega
  case hd=>rfl
  intro v';rw [dw,<- zG,ZD,Za];refine Ja I<|Jn<|Je ?_
  with_reducible first|apply aO|apply aQ
  case he=>exact dB I I
  case hR=>
   intro w' aB;exact aD v' trivial (by exact .h1 .nil) aB I
theorem wh {P:Program} {c:Cx} {sl:aL} {hs:List bd} {ty:TypeId} {pos:String} {af:Array Edge} {t u:TypeId} {a b:ByteArray} (hx:Is sl x (.string a)) (hy:Is sl y (.string b)) (e:a=b) :
  di P c sl hs ⟨dst,.binOp .eql t x y u,ty,pos,af,g⟩ (.bool true):=by
 have:=dF (P:=P) (c:=c) (hs:=hs) (dst:=dst) (ty:=ty) (pos:=pos) (af:=af) (g:=g) (t:=t) (u:=u) hx hy;rwa [decide_eq_true e] at this
theorem CN {P:Program} {c:Cx} {sl:aL} {hs:List bd} {ty:TypeId} {pos:String} {af:Array Edge} {t u:TypeId} {a b:ByteArray} (hx:Is sl x (.string a)) (hy:Is sl y (.string b)) (e:a≠b) :
  di P c sl hs ⟨dst,.binOp .eql t x y u,ty,pos,af,g⟩ (.bool false):=by
 have:=dF (P:=P) (c:=c) (hs:=hs) (dst:=dst) (ty:=ty) (pos:=pos) (af:=af) (g:=g) (t:=t) (u:=u) hx hy;rwa [decide_eq_false e] at this
def ye (r:Ro) (v:Int) (so:ByteArray) (i:Nat):Bool:=gL r.po v (dh r i)&&decide (j4 r v (dh r i)=so)
def B5 (r:Ro) (v:Int) (so:ByteArray) (k:Nat):List Nat:=(List.range k).filter (ye r v so)
theorem xI (r:Ro) (v:Int) (so:ByteArray) (k:Nat):B5 r v so (k+1)=B5 r v so k++if ye r v so k then [k] else []:=by
 unfold B5;rw [Zbw,Zay];congr 1;by_cases h:ye r v so k=true
 ·rw [Zbq h,if_pos h];rfl
 ·rw [List.filter_cons_of_neg h,if_neg h];rfl
def oH (r:Ro) (so:ByteArray):Int:=(r.sr.getD (bC (cK r) so).toNat ⟨⟨#[]⟩,0⟩).mx
def wk (x:Wy):Nat×List Nat:=(x.f,x.p)
def SY (L:List (Nat×List Nat)) (W:List Wy):Prop:=W.map wk=L/\∀ y∈W,y.v.oneCell'=true
theorem SY.add {L:List (Nat×List Nat)} {W:List Wy} (h:SY L W) (y:Wy) (hy:y.v.oneCell'=true):SY (L++[wk y]) (W++[y]):=by
 refine ⟨by rw [Zv,h.1];rfl,fun z hz=>?_⟩;rcases Zz.1 hz with hz | hz
 ·exact h.2 z hz
 ·rw [ZL.1 hz];exact hy
theorem NB (W:List Wy) (y:Wy):jg (W++[y])=iG 3 (W.map Wy.v++[y.v]) ((W.map fun x=>gT x.p)++[gT y.p]):=by unfold jg;rw [Zv,Zv];rfl
theorem Ac (W:List Wy) (y:Wy):nJ (W++[y])=nJ W++[y.v,.q (y.f:Nat)]:=by rw [Oy];rfl
theorem qf {c:Cx} {D:List Nat} {sl:aL} {hs h1 h2:List bd} {X:Act->World->Prop} {W:List Wy} (y:Wy) {n:Nat} {x:List Value} (ht:Take hs (jg W) h1) (ht2:Take h1 (row 3 1 y.v n x) h2) (hn:n=y.p.length) (hx:x=gT y.p)
  (k:Tr c D sl (jg (W++[y])::h2) X):Tr c D sl hs X:=by
 subst hx;refine ku (vs:=W.map Wy.v) (xs:=W.map fun x=>gT x.p) (v:=y.v) (show Take hs (iG 3 (W.map Wy.v) (W.map fun x=>gT x.p)) h1 from ht) ht2 (by rw [hn];unfold gT;rw [Zd]) (by rw [Zd,Zd]) ?_;rw [<- NB];exact k
theorem y7 {c:Cx} {D:List Nat} {sl:aL} {hs:List bd} {X:Act->World->Prop} (k:Tr c D sl (jg []::hs) X):Tr c D sl hs X:=jL 3 k
set_option maxHeartbeats 1000000 in
theorem Ny {r:Ro} {s d t p:Value} (v:Int) (so:ByteArray) {w:World} (h:RR w r s d t p) (cZ:r.ti.length<=1000) (Uv:so∈cK r) :
  a8 T_ 259 [RA r s d t p,.q v,.string so] w [] (fun x:Value×List Wy=>SY ((B5 r v so r.ti.length).map (fun i=>(0,[i]))++(gj r v (oH r so) r.ti.length).map (fun i=>(1,[i]))) x.2) (fun x=>x.1)
   (fun x=>[row 244 2 x.1 x.2.length (nJ x.2),jg x.2]):=by
 obtain ⟨h1,h2,h3,h4⟩:=h.one;have hti:=h.ti;obtain ⟨a,cp,b,o',rfl,dd,bO,ha,hc⟩:=hti;have Us:=h.sr;obtain ⟨a2,oS,b2,o2,rfl,kd,eU,jV,ke⟩:=Us;rw [bV] at *;rw [cy] at *;unfold maxLen at bO eU;obtain ⟨i0,vB⟩:∃ i:Nat,bC (cK r) so=(i:Nat):=⟨(bC (cK r) so).toNat,by have:=dP Uv;omega⟩;have Fc:i0<r.sr.length:=by
  obtain ⟨hl,_⟩:=fD (l:=cK r) (s:=so) (by omega);rw [vB,ZH] at hl;unfold cK at hl;rwa [Zd] at hl
 have Bj:oH r so=(r.sr[i0]).mx:=by unfold oH;rw [vB,ZH,Zk,Zc Fc];rfl
 have Xq:∀ w',aJ [] w w'->aj T_ 180 [.agg #[.q r.lv,.q r.ma,.slice a2 r.sr.length oS,d,.slice a r.ti.length cp,p],.string so] w' (.q (i0:Nat)):=fun w' hk=>vB ▸ oY so (h.keeps hk)
 have hsrc:=Xq;unfold RA;refine aS func259 I I ?_
 (refine Jr<|Jy I I fun _ _=>Ja I<|Ji<|Jz I I fun _ _=>Jn<|Jq<|Jr<|bJ I I ae<|JL I (.there .here) I<|JI I<|Jv I<|Jn<|J0 ?_)
 rename_i b3 tr b7 Sm;refine aN 244 2 ?_;refine y7 ?_
 refine aV (ι:=Nat×Value×List Wy) (fun x=>x.1<=r.ti.length/\SY ((B5 r v so x.1).map (fun i=>(0,[i]))) x.2.2)
  (fun x=>[(14,.q (x.1:Nat)),(13,.q (r.ti.length:Nat)),(12,.slice a r.ti.length cp),(7,.p b7),(3,.p b3),(1,.q v),(2,.string so)])
  (fun x=>[bE b7 (.cells #[x.2.1] 329 (0,0)),row 244 2 x.2.1 x.2.2.length (nJ x.2.2),jg x.2.2,JP b3 r (.slice a2 r.sr.length oS) d (.slice a r.ti.length cp) p]) (fun x=>r.ti.length-x.1) ?_ ?_
 ·apply aI (0,.z,[]) ⟨Zi _,I,fun y hy=>by cases hy⟩
  case hs1=>exact bS
  case ht=>
   exact .cons bL (.cons (.there .here) (.h2 .nil))
 rintro ⟨k,wv,W⟩ ⟨hk,hW⟩;dsimp only at hk hW ⊢;have Og:(nJ W).length=W.length*2:=pZ W;by_cases aK:k<r.ti.length
 ·have cq:=ha (fm aK);have aC:=(hc k _ (ei aK)).2;unfold Ti.cells at aC;have Bd:=nR aK;have uA:dh r k=(r.ti[k]).nm:=by unfold dh;rw [Bd]
  have hWk:W.length<=k:=by
   have:=congrArg List.length hW.1;rw [Zd,Zd] at this;rw [this];have:=ZV (ye r v so) (List.range k);rw [Zau] at this;exact this
  have Dq:∀ w',aJ [] w w'->aj T_ 121 [.agg #[.q r.lv,.q r.ma,.slice a2 r.sr.length oS,d,.slice a r.ti.length cp,p],.q v,.string (r.ti[k]).nm] w' (.bool (gL r.po v (r.ti[k]).nm)):=fun w' hk=>rF v _ (h.keeps hk)
  have rL:∀ w',aJ [] w w'->aj T_ 126 [.agg #[.q r.lv,.q r.ma,.slice a2 r.sr.length oS,d,.slice a r.ti.length cp,p],.q v,.string (r.ti[k]).nm] w' (.string (j4 r v (r.ti[k]).nm)):=fun w' hk=>qD v _ (h.keeps hk) (by omega)
  cases B3:gL r.po v (r.ti[k]).nm with
  | false =>
   have Dr:∀ w',aJ [] w w'->aj T_ 121 [.agg #[.q r.lv,.q r.ma,.slice a2 r.sr.length oS,d,.slice a r.ti.length cp,p],.q v,.string (r.ti[k]).nm] w' (.bool false):=fun w' hk=>B3 ▸ Dq w' hk
   have hq:ye r v so k=false:=by unfold ye;rw [uA,B3];rfl
   have Me:B5 r v so (k+1)=B5 r v so k:=by rw [xI,if_neg (by rw [hq];decide),ZJ]
   (refine Jr<|JA I<|Jn<|Jq<|Jd I fun az=>Jk<|Jq<|J0<|Jr<|Jv I<|ab (fT cq az) I<|ab (iO (eZ.base aC I)) I<|Jz I I fun _ _=>Ja I<|ao (.of I) (.of I) .here I I (fx I I I) (bz I) ak<|Ji<|ab (cm dD) I<|Jv I<|bJ I I ae<|JL I .here I<|ai ef I (fun w' aB=>(Dr w' (Mem.keeps aB)))<|Jv I<|aF I I inferInstance (fun hg br=>(bK (.of I) dD ak (by rfl))) I<|iQ I I I I<|aF I I inferInstance (fun hg br=>(aq (.of I) ae)) I<|aF I I inferInstance (fun hg br=>(ag (.bF br I) (At.lit .here I))) I<|ew I I I I<|iQ I I I I<|ew I I I I<|ab (c8 (.of I) (.of I) (.of I) I) I<|Jn<|ch (.of I)<|Jw<|Jj<|Jt<|Jg<|JB I (by omega)<|Jv I<|Jn ?_)
   apply aH (k+1,wv,W) ⟨show k+1<=r.ti.length by omega,by rw [Me];exact hW⟩ (show r.ti.length-(k+1)<r.ti.length-k by omega)
   case hs1=>exact bS
   case ht=>(try simp only [Ze,Zf,Za]);exact .cons (.there .here) (.cons (.there .here) (.cons (.there .here) (.cons (.there .here) .nil)))
  | true =>
   have Dr:∀ w',aJ [] w w'->aj T_ 121 [.agg #[.q r.lv,.q r.ma,.slice a2 r.sr.length oS,d,.slice a r.ti.length cp,p],.q v,.string (r.ti[k]).nm] w' (.bool true):=fun w' hk=>B3 ▸ Dq w' hk
   by_cases Be:j4 r v (r.ti[k]).nm=so
   ·have hq:ye r v so k=true:=by unfold ye;rw [uA,B3,decide_eq_true Be];rfl
    have Me:B5 r v so (k+1)=B5 r v so k++[k]:=by rw [xI,if_pos hq]
    (refine Jr<|JA I<|Jn<|Jq<|Jd I fun az=>Jk<|Jq<|J0<|Jr<|Jv I<|ab (fT cq az) I<|ab (iO (eZ.base aC I)) I<|Jz I I fun _ _=>Ja I<|ao (.of I) (.of I) .here I I (fx I I I) (bz I) ak<|Ji<|ab (cm dD) I<|Jv I<|bJ I I ae<|JL I .here I<|ai ef I (fun w' aB=>(Dr w' (Mem.keeps aB)))<|Jv I<|JK I I<|ab (cm dD) I<|JK I I<|Jv I<|JK I I<|bJ I I ae<|JK I I<|JL I .here I<|JK I I<|ai ef I (fun w' aB=>(rL w' (Mem.keeps aB)))<|JK I I<|Jv I<|JK I I<|ab (wh (.of I) (.of I) Be) I<|ab (fA (.of I) (.of I) (.of I) I) I<|Jn<|cW (.of I)<|Jg<|JL I (.there .here) I<|Jv I<|bj (aG (.o I .nil) I I I I) I fun _ _=>ab (aU (.o I (.o I .nil)) ak) I<|bj (bn (.o I .nil) I I bH bH ak) I fun _ _=>?_)
    rename_i b9 hb9 bq ml bl Sl;have MN:=hW.add ⟨.w bq 1 1,[k],0⟩ I;have Uj:nJ (W++[⟨.w bq 1 1,[k],0⟩])=nJ W++[.w bq 1 1,.q 0]:=Ac W _;have Xj:(W++[(⟨.w bq 1 1,[k],0⟩:Wy)]).length=W.length+1:=by simp
    refine bu (.of I) (.of I) dD .here ak (by rfl) (gO I I) (by rfl) (by rfl) (by rfl) ed (by rfl) ?_;intro v';refine aM (by exact .here) fun a' iz e=>?_;subst e
    (refine ao (.of I) (.of I) dD I I (dR I) (bz I) ak<|Jx<|Jj<|Jt<|Jg<|JB I (by omega)<|Jv I<|Jn ?_)
    refine bU (g:=bq) (E:=3) (ys:=[.q (k:Nat)]) 1 1 cX I I I ?_;refine qf (W:=W) ⟨.w bq 1 1,[k],0⟩ (n:=1) (x:=[.q (k:Nat)]) eu (by exact .here) I I ?_;apply aH (k+1,.slice a' (W.length+1) iz,W++[⟨.w bq 1 1,[k],0⟩]) ⟨show k+1<=r.ti.length by omega,by rw [Me,Zv];exact MN⟩ (show r.ti.length-(k+1)<r.ti.length-k by omega)
    case hs1=>exact bS
    case ht=>
     show bB _ [bE b7 (.cells #[.slice a' (W.length+1) iz] 329 (0,0)),row 244 2 (.slice a' (W.length+1) iz) (W++[(⟨.w bq 1 1,[k],0⟩:Wy)]).length (nJ (W++[⟨.w bq 1 1,[k],0⟩])),jg (W++[⟨.w bq 1 1,[k],0⟩]),JP b3 r (.slice a2 r.sr.length oS) d (.slice a r.ti.length cp) p] _;rw [Xj,Uj];exact .cons (.there .here) (.cons (.there .here) (.h1 (.cons bL .nil)))
   ·have hq:ye r v so k=false:=by unfold ye;rw [uA,B3,decide_eq_false Be];rfl
    have Me:B5 r v so (k+1)=B5 r v so k:=by rw [xI,if_neg (by rw [hq];decide),ZJ]
    (refine Jr<|JA I<|Jn<|Jq<|Jd I fun az=>Jk<|Jq<|J0<|Jr<|Jv I<|ab (fT cq az) I<|ab (iO (eZ.base aC I)) I<|Jz I I fun _ _=>Ja I<|ao (.of I) (.of I) .here I I (fx I I I) (bz I) ak<|Ji<|ab (cm dD) I<|Jv I<|bJ I I ae<|JL I .here I<|ai ef I (fun w' aB=>(Dr w' (Mem.keeps aB)))<|Jv I<|JK I I<|ab (cm dD) I<|JK I I<|Jv I<|JK I I<|bJ I I ae<|JK I I<|JL I .here I<|JK I I<|ai ef I (fun w' aB=>(rL w' (Mem.keeps aB)))<|JK I I<|Jv I<|JK I I<|ab (CN (.of I) (.of I) Be) I<|ab (c8 (.of I) (.of I) (.of I) I) I<|Jn<|ch (.of I)<|Jw<|Jj<|Jt<|Jg<|JB I (by omega)<|Jv I<|Jn ?_)
    apply aH (k+1,wv,W) ⟨show k+1<=r.ti.length by omega,by rw [Me];exact hW⟩ (show r.ti.length-(k+1)<r.ti.length-k by omega)
    case hs1=>exact bS
    case ht=>(try simp only [Ze,Zf,Za]);exact .cons (.there .here) (.cons (.there .here) (.cons (.there .here) (.cons (.there .here) .nil)))
 ·obtain rfl:k=r.ti.length:=by omega
  refine Jr<|JA I<|Jn<|Jq<|Jc I fun az=>Jp<|Jl<|Jo<|Jt<|Jq<|Jq ?_;have qI:=jV (iF Fc);have fF:=(ke i0 _ (fZ Fc)).2;unfold Sr.cells at fF;have V2:=fF 1 _ I
  with_reducible refine cN 10 (by kernel_rfl) ?_
  (refine aA (cm cX) I<|gn I I<|lS I I ae<|aA (gX cX) I<|aA (cm cX) I<|gn I I<|dp bb I (fun w' aB=>(hsrc w' (Mem.keeps aB)))<|aA (an (.of I) (.of I) qI (by omega) (by omega) aW) I<|lS I I ae<|aA (ag (.of I) (At.base V2 I)) I ?_)
  with_reducible refine cT ?_
  rw [<- Bj]
  with_reducible apply jH
  case hr=>exact ef
  case hd=>rfl
  case ht=>exact bB.nil
  case hc=>
   intro w1 fp aT _ hs1;obtain rfl:fp=[]:=hs1;exact tM (s:=.slice a2 r.sr.length oS) (d:=d) (t:=.slice a r.ti.length cp) (p:=p) v (oH r so) (h.keeps aT.keeps)
  intro y _;dsimp only [id_eq,Zb,Za];refine Jn<|J0 ?_;have sK:(gj r v (oH r so) r.ti.length).length<=r.ti.length:=by
   have:=ZV (Dv r v (oH r so)) (List.range r.ti.length);rw [Zau] at this;exact this
  have jq:(B5 r v so r.ti.length).length<=r.ti.length:=by
   have:=ZV (ye r v so) (List.range r.ti.length);rw [Zau] at this;exact this
  refine jR (ps:=[51,52]) (f:=240) (first:=[]) (cap:=[.pointer (some ⟨y.1,0,none⟩),.pointer (some ⟨y.2.1,0,none⟩),.pointer (some ⟨y.2.2,0,none⟩)]) (ι:=Value×List Wy) (κ:=Empty) (rst:=[JP b3 r (.slice a2 r.sr.length oS) d (.slice a r.ti.length cp) p]) ?hg
   [JP y.1 r (.slice a2 r.sr.length oS) d (.slice a r.ti.length cp) p,bE y.2.1 (.cells #[.q (oH r so)] 3 (0,0)),bE y.2.2 (.cells #[.q v] 3 (0,0))] (N5 r v (oH r so)) ?hit
   (fun k x=>SY ((B5 r v so r.ti.length).map (fun i=>(0,[i]))++((gj r v (oH r so) r.ti.length).take k).map (fun i=>(1,[i]))) x.2)
   (fun x=>[bE b7 (.cells #[x.1] 329 (0,0)),row 244 2 x.1 x.2.length (nJ x.2),jg x.2])
   (fun _=>False) (fun _=>[]) (fun _=>.ret) (wv,W) (by rw [Ze,Zf,ZJ];exact hW) ?ht ?hlen ?hps ?round ?kn ?kj
  case hg=>exact Is.of I
  case hit=>intro w' aB;exact LL v (oH r so) h RO.nil (by omega)
  case ht=>
   dsimp only [Zb,Za];exact .cons cX (.cons cX (.cons cX (.h3 .nil)))
  case hlen=>intro vs pC;obtain ⟨x,_,rfl⟩:=Zx.1 pC;rfl
  case hps=>intro t ht;simp only [ZS,Zo,or_false] at ht;rcases ht with rfl | rfl <;> exact ZaA rfl
  case kj=>intro y;cases y
  case kn=>
   rintro ⟨wv,W⟩ D hq;dsimp only [Zb,Za] at hq ⊢;rw [vv,ZK] at hq;refine aM (E:=244) (sz:=2) (by exact Take.there .here) fun va vc e=>?_;subst e;refine Jj<|Jt<|Jr<|JL I .here I<|Ja I<|Jn<|Je ?_
   with_reducible first|apply aO|apply aQ
   case he=>exact dB I I
   case hR=>
    intro w' aB;exact aD (.slice va W.length vc,W) hq (by exact .cons (.there .here) (.cons (.there .here) .nil)) aB I
  case round=>
   rintro l2 rc W2 YD k ⟨wv,W⟩ vs hsz hk hq hB hF;dsimp only at hq;obtain ⟨i,hi,rfl,jO,UQ⟩:=ET hk;obtain ⟨nM,Mt⟩:=Zn.1 hi;have htk:(gj r v (oH r so) r.ti.length).take (k+1)=(gj r v (oH r so) r.ti.length).take k++[i]:=by rw [Zl nM,Mt]
   have Og:(nJ W).length=W.length*2:=pZ W;have hWk:W.length<=2000:=by
    have:=congrArg List.length hq.1;rw [Zd,Zg,Zd,Zd,Zs] at this;omega
   dsimp only [Ti.cells,List.zip_cons_cons,List.zip_nil_right,mV,Zb,Za];refine Jg<|Ja I<|Jn ?_
   with_reducible apply ns
   case ht=>exact .here
   refine aM (E:=244) (sz:=2) bL fun v1 v2 e=>?_;subst e
   (refine J0<|Jg<|JL I (.there .here) I<|Jv I<|bj (aG (.o I .nil) I I I I) I fun _ _=>ab (aU (.o I (.o I .nil)) ak) I<|bj (bn (.o I .nil) I I bH bH ak) I fun _ _=>?_)
   rename_i bq ml bl Sl;have MN:=hq.add ⟨.w bq 1 1,[i],1⟩ I;have Uj:nJ (W++[⟨.w bq 1 1,[i],1⟩])=nJ W++[.w bq 1 1,.q 1]:=Ac W _;have Xj:(W++[(⟨.w bq 1 1,[i],1⟩:Wy)]).length=W.length+1:=by simp
   refine bu (.of I) (.of I) dD .here ak (by rfl) (gO I I) (by rfl) (by rfl) (by rfl) ed (by rfl) ?_;intro v';refine aM (by exact .here) fun a' iz e=>?_;subst e
   (refine ao (.of I) (.of I) dD I I (dR I) (bz I) ak<|Jx<|Jj ?_)
   refine bU (g:=bq) (E:=3) (ys:=[.q (i:Nat)]) 1 1 cX I I I ?_;refine qf (W:=W) ⟨.w bq 1 1,[i],1⟩ (n:=1) (x:=[.q (i:Nat)]) eu (by exact .here) I I ?_;apply mC (.slice a' (W.length+1) iz,W++[⟨.w bq 1 1,[i],1⟩])
   case ht=>exact dD
   case hx=>
    show SY _ _;rw [htk,Zv,<- Zh];exact MN
   case h2=>
    show bB _ [bE b7 (.cells #[.slice a' (W.length+1) iz] 329 (0,0)),row 244 2 (.slice a' (W.length+1) iz) (W++[(⟨.w bq 1 1,[i],1⟩:Wy)]).length (nJ (W++[⟨.w bq 1 1,[i],1⟩])),jg (W++[⟨.w bq 1 1,[i],1⟩])] _;rw [Xj,Uj];exact .cons (.there .here) (.cons (.there .here) (.h1 .nil))
def yL (r:Ro) (v:Int) (so:ByteArray):List (Nat×List Nat):=(B5 r v so r.ti.length).map (fun i=>(0,[i]))++(gj r v (oH r so) r.ti.length).map (fun i=>(1,[i]))
theorem oZ {r:Ro} (h:so∈cK r):kq r so=oH r so:=by
 unfold kq oH;rw [if_pos (dP h)]
theorem rE {r:Ro} (hn:oE r) (h:jh r r.po) (v:Int) (so:ByteArray) (i:Nat):ye r v so i=(dG r r.po v so).ca i:=by
 unfold ye dG;rw [xJ hn h]
theorem rr {r:Ro} (v:Int) (so:ByteArray) (m:Int) (i:Nat):Dv r v m i=(decide ((dG r r.po v so).fr i=m)&&(dG r r.po v so).fe i):=rfl
theorem Nu {r:Ro} {v:Int} (h:(dG r r.po v so).ca i=true):(dG r r.po v so).fe i=false:=by
 unfold dG at h ⊢;simp only [Zm] at h;simp [h.1]
theorem GS (N:Wn) (i:Nat):N.sO [i]=if N.fe i then 1 else 0:=by
 unfold Wn.sO;cases h:N.fe i <;> simp [h]
theorem MQ (N:Wn) (p:List Nat) {i:Nat} (h:N.fe i=true):N.sO (p++[i])=N.sO p+1:=by
 unfold Wn.sO;rw [List.countP_append];simp [h]
theorem KD (N:Wn) (j:Nat):N.step [] j=(decide (j<N.n)&&(N.ca j||(N.fe j&&decide (N.fr j=N.FA)))):=by
 unfold Wn.step;simp [Wn.QS];rfl
theorem step_cons (N:Wn) {x:List Nat} (h:x≠[]) (j:Nat):N.step x j=(decide (j<N.n)&&(!x.contains j&&(N.fe j&&decide (N.fr j=N.fin x)))):=by
 unfold Wn.step;cases x with
 | nil=>exact absurd rfl h
 | cons a l=>simp
theorem Nz {r:Ro} (hn:oE r) (h:jh r r.po) (v:Int) {so:ByteArray} (hs:so∈cK r) (q:List Nat):q∈(yL r v so).map Prod.snd↔q∈(dG r r.po v so).exts []:=by
 unfold yL Wn.exts Wn.VS;rw [Zv,Zz,ZaE,ZaE];simp only [Zx,Za,Function.comp,Zr,ZW,B5,gj];have ba:∀ j,(dG r r.po v so).step [] j=true↔j<r.ti.length/\(ye r v so j=true\/Dv r v (oH r so) j=true):=fun j=>by
  rw [KD,rE hn h,rr v so];have e0:(dG r r.po v so).FA=oH r so:=oZ hs;rw [e0];simp only [Zm,ZT,decide_eq_true_eq];constructor
  ·rintro ⟨h1,h2 | ⟨h3,h4⟩⟩
   ·exact ⟨h1,.inl h2⟩
   ·exact ⟨h1,.inr ⟨h4,h3⟩⟩
  ·rintro ⟨h1,h2 | ⟨h3,h4⟩⟩
   ·exact ⟨h1,.inl h2⟩
   ·exact ⟨h1,.inr ⟨h4,h3⟩⟩
 constructor
 ·rintro (⟨j,⟨h1,h2⟩,rfl⟩ | ⟨j,⟨h1,h2⟩,rfl⟩)
  ·exact ⟨j,⟨h1,(ba j).2 ⟨h1,.inl h2⟩⟩,I⟩
  ·exact ⟨j,⟨h1,(ba j).2 ⟨h1,.inr h2⟩⟩,I⟩
 ·rintro ⟨j,⟨h1,h2⟩,rfl⟩;rcases ((ba j).1 h2).2 with h3 | h3
  ·exact .inl ⟨j,⟨h1,h3⟩,I⟩
  ·exact .inr ⟨j,⟨h1,h3⟩,I⟩
theorem Vw {r:Ro} (hn:oE r) (h:jh r r.po) (v:Int) {so:ByteArray} {x:Nat×List Nat} (hx:x∈yL r v so):x.1=(dG r r.po v so).sO x.2:=by
 unfold yL at hx;rcases Zz.1 hx with hx | hx
 ·obtain ⟨i,hi,rfl⟩:=Zx.1 hx;have:=(Zr.1 hi).2;rw [rE hn h] at this;rw [GS,Nu this];rfl
 ·obtain ⟨i,hi,rfl⟩:=Zx.1 hx;have:=(Zr.1 hi).2;rw [rr v so,Zm] at this;rw [GS,this.2];rfl
theorem Rq {r:Ro} (hn:oE r) (h:jh r r.po) (v:Int) {so:ByteArray} (h6:r.ti.length<=6):(dG r r.po v so).wt ((yL r v so).map Prod.snd)<=1957:=by
 have e:(yL r v so).map Prod.snd=(B5 r v so r.ti.length++gj r v (oH r so) r.ti.length).map (fun i=>([]:List Nat)++[i]):=by
  unfold yL;rw [Zv,ZaE,ZaE,Zv];rfl
 rw [e,Wn.Ec];have hl:(B5 r v so r.ti.length++gj r v (oH r so) r.ti.length).length<=r.ti.length:=by
  refine lO _ _ ?_ ?_
  ·rw [ZG];refine ⟨List.nodup_range.filter _,List.nodup_range.filter _,?_⟩;intro a ha b hb e;subst e;have h1:=(Zr.1 ha).2;have h2:=(Zr.1 hb).2;rw [rE hn h] at h1;rw [rr v so,Zm] at h2;rw [Nu h1] at h2;cases h2.2
  ·intro x hx;rcases Zz.1 hx with hx | hx <;> exact ZW.1 (Zr.1 hx).1
 have hN:(dG r r.po v so).n=r.ti.length:=rfl;rw [hN];generalize (B5 r v so r.ti.length++gj r v (oH r so) r.ti.length).length=k at hl;generalize r.ti.length=n at hl h6;have:∀ n,n<=6->n*qO (n-1)<=1957:=by decide
 exact ZQ (Z7 _ hl) (by simpa using this n h6)
theorem Ik {r:Ro} {v:Int} {x:List Nat} (hx:x≠[]):(dG r r.po v so).exts x=((gj r v ((dG r r.po v so).fin x) r.ti.length).filter fun i=>!x.contains i).map fun i=>x++[i]:=by
 unfold Wn.exts Wn.VS gj;rw [Zbu];congr 1;apply Zbc;intro j hj;have pF:=ZW.1 hj;rw [step_cons _ hx,rr v so];have:decide (j<(dG r r.po v so).n)=true:=decide_eq_true pF;rw [this,Zao];congr 1;exact Bool.and_comm _ _
theorem Xb {r:Ro} {v:Int} (p q:List Nat):(dG r r.po v so).lt p q=wl ((dG r r.po v so).sO p,p) ((dG r r.po v so).sO q,q):=rfl
def k7 (r:Ro) (de:ByteArray):Int:=(r.de.getD (bC (cE r) de).toNat ⟨⟨#[]⟩,0,false⟩).mx
theorem M8 {r:Ro} {de:ByteArray} (h:de∈cE r):kP r de=k7 r de:=by
 unfold kP k7;rw [if_pos (dP h)]
structure qJ (N:Wn) (dm:Int) (Q lu:List Wy):Prop where
 sub:∀ x∈Q,x∈lu
 one:∀ x∈lu,x.v.oneCell'=true
 sO:∀ x∈Q,x.f=N.sO x.p
 inv:N.Inv dm (Q.map Wy.p)
 B4:N.wt (Q.map Wy.p)<=1957
theorem qJ.len {Q lu:List Wy} (h:qJ N dm Q lu):Q.length<=1957:=by
 have:=N.JO (Q.map Wy.p);rw [Zd] at this;exact ZQ this h.B4
theorem qJ.begin {r:Ro} (hn:oE r) (hv:jh r r.po) (v:Int) {so de:ByteArray} (hs:so∈cK r) (h6:r.ti.length<=6) (hne:oH r so≠k7 r de) {W:List Wy} (hW:SY (yL r v so) W):qJ (dG r r.po v so) (k7 r de) W W:=by
 have hp:W.map Wy.p=(yL r v so).map Prod.snd:=by rw [<- hW.1,ZaE];rfl
 refine ⟨fun _ h=>h,hW.2,fun x hx=>?_,?_,?_⟩
 ·have:wk x∈yL r v so:=by rw [<- hW.1];exact ZY hx
  exact Vw hn hv v this
 ·refine Wn.HX (by rw [show (dG r r.po v so).FA=kq r so from I,oZ hs];exact hne) fun q=>?_;rw [hp];exact Nz hn hv v hs q
 ·rw [hp];exact Rq hn hv v h6
theorem qJ.perm {Q Q' lu:List Wy} (h:qJ N dm Q lu) (hp:Q'.Perm Q):qJ N dm Q' lu:=by
 have hm:=hp.map Wy.p;refine ⟨fun x hx=>h.sub x (hp.mem_iff.1 hx),h.one,fun x hx=>h.sO x (hp.mem_iff.1 hx),⟨fun q hq=>h.inv.ok q (hm.mem_iff.1 hq),fun p h1 h2=>?_⟩,by rw [Wn.FL hm];exact h.B4⟩;obtain ⟨q,hq,h3⟩:=h.inv.cover p h1 h2;exact ⟨q,hm.mem_iff.2 hq,h3⟩
theorem qJ.found {r:Ro} {v:Int} {x:Wy} {R lu:List Wy} (h:qJ (dG r r.po v so) dm (x::R) lu) (hs:(x::R).Pairwise (fun x y=>wl (y.f,y.p) (x.f,x.p)=false)) (hf:(dG r r.po v so).fin x.p=dm):(dG r r.po v so).least dm x.p:=by
 refine Wn.HW h.inv (by simp) (fun q hq=>?_) hf;obtain ⟨y,hy,rfl⟩:=Zx.1 hq;rw [Xb,<- h.sO x (by simp),<- h.sO y hy];rcases ZS.1 hy with rfl | hy
 ·exact yQ _
 ·exact (ZaV.1 hs).1 y hy
theorem qJ.next {r:Ro} {v:Int} {x:Wy} {R W lu oM:List Wy} (h:qJ (dG r r.po v so) dm (x::R) lu) (hf:(dG r r.po v so).fin x.p≠dm) (jn:∀ y∈R++W,y∈oM) (fo:∀ y∈oM,y.v.oneCell'=true)
  (hW:W.map wk=((gj r v ((dG r r.po v so).fin x.p) r.ti.length).filter fun i=>!x.p.contains i).map fun i=>(x.f+1,x.p++[i])):qJ (dG r r.po v so) dm (R++W) oM/\(dG r r.po v so).wt ((R++W).map Wy.p)<(dG r r.po v so).wt ((x::R).map Wy.p):=by
 have hx:=h.inv.ok x.p (by simp);have hWp:W.map Wy.p=(dG r r.po v so).exts x.p:=by
  rw [Ik hx.2];have:=congrArg (fun l=>l.map Prod.snd) hW
  simp only [ZaE] at this;exact this
 have aK:(dG r r.po v so).wt ((R++W).map Wy.p)<(dG r r.po v so).wt ((x::R).map Wy.p):=by
  rw [Zv,hWp,Wn.yP,Z3,Wn.wt];have:=Wn.Oz hx.1;omega
 refine ⟨⟨jn,fo,fun y hy=>?_,?_,ZQ (Nat.le_of_lt aK) h.B4⟩,aK⟩
 ·rcases Zz.1 hy with hy | hy
  ·exact h.sO y (ZM _ hy)
  ·have h1:wk y∈W.map wk:=ZY hy;rw [hW] at h1;obtain ⟨i,hi,e⟩:=Zx.1 h1;have e1:x.f+1=y.f:=congrArg Prod.fst e;have e2:x.p++[i]=y.p:=congrArg Prod.snd e;have h2:=(Zr.1 (Zr.1 hi).1).2;rw [rr v so,Zm] at h2;rw [<- e1,<- e2,MQ _ _ h2.2,h.sO x (by simp)]
 ·rw [Zv,hWp];refine Wn.L6 h.inv (fun q=>?_) hf;rw [Z3,ZS]
end Go.Proofs.A1
namespace Go.SL
open Go
theorem Gf {h:Nat->Option Obj} {E:TypeId} {sz:Nat} {v:Value} {n:Nat} {xs:List Value} {fp:List Nat} (hr:(lz E sz v n xs).sat h fp):fp=v.ownBlock.toList:=by
 obtain ⟨_,h1⟩:=hr;rcases h1 with ⟨rfl,rfl,_⟩ | ⟨g,off,cap,cur,rfl,rfl,_⟩
 ·simp [Value.ownBlock]
 ·simp [Value.ownBlock]
section
variable {P:Program} {c:Cx} {D:List Nat} {sl:aL} {hs hs':List bd} {d:Nat} {ty:TypeId} {pos:String} {af:Array Edge} {r:Option Nat} {ops:Array Oper} {Q:Exit->Act->World->Prop} {rest:List Oper}
theorem El {t e:TypeId} {agg:Bool} {size bytes:Nat} {z:Value} {x y:Operand} {v:Value} {n b o m cp:Nat} {xs news:List Value} [hu:ja P t (.slice e)] [hT:Ty P e agg size] [hZ:mn P e z] [hB:u6 P e bytes]
  (hx:Is sl x v) (hy:Is sl y (.slice (some ⟨b,o,none⟩) m cp)) (ht:Take hs (lz e size v n xs) hs') (hn:eZ c hs b o news) (hl:news.length=m*size) (h1:∀ u∈news,u.oneCell'=true) (hz:z.cells.size=size) (hsz:Nat.blt 0 size=true) (hb0:Nat.blt 0 bytes=true)
  (hb:(n+m)*bytes<=140737488355328) (hd:Nat.blt d c.nt=true)
  (k:∀ v',Tr c D ((d,v')::sl) (lz e size v' (n+m) (xs++news)::hs') (WL P r ops Q rest)) :
  Tr c D sl hs (WL P r ops Q (⟨some d,.call ⟨.builtin .append,#[x,y],#[t,t]⟩,ty,pos,af,none⟩::rest)):=fun a w ba=>by
 obtain ⟨de,i,mZ,hi,_,gY⟩:=Ty.parts (P:=P) (t:=e) (agg:=agg) (n:=size);have hzero:i.zero=some z:=by have:=hZ.eq;rw [hi] at this;simpa using this
 have gJ:i.bytes=bytes:=by have:=hB.eq;rw [hi] at this;simpa using this
 have hm0:=ba.pq;have hm:=ba.mem.take (ht.append _);obtain ⟨kk,fp,jw,⟨f1,f2,rfl,R6,h2⟩,Bm⟩:=hm;obtain ⟨hlen,hrow⟩:=id R6;have xj:0<bytes:=by simpa using hb0
 have Xs:0<size:=by simpa using hsz
 have bO:n+m<=maxLen:=by
  have:(n+m)*1<=(n+m)*bytes:=Zbd _ xj;unfold maxLen;omega
 have sG:∀ j u,news[j]? = some u->w.cell? ((⟨b,o,none⟩:Addr).add j)=some u:=fun j u hj=>by rw [eM];exact hn.get j u hj w hm0
 have hlx:(xs++news).length=(n+m)*size:=by rw [Zg,hlen,hl,Nat.add_mul]
 have key:∃ v' w' mw,(Builtin.append_ #[t,t] ty #[v,.slice (some ⟨b,o,none⟩) m cp]).run P w=.ok v' w'/\aJ f1 w w'/\mw.Nodup/\(lz e size v' (n+m) (xs++news)).sat (hp w') mw/\∀ q∈mw,q∈f1\/w.heap.size<=q:=by
  rcases hrow with ⟨rfl,rfl,rfl⟩ | ⟨g,off,cap,cur,rfl,rfl,hg,hnc,hcm,hfit,htk⟩
  ·have pE:w.ownsRow 0 e size (.z) 0 xs:=⟨hlen,.inl ⟨I,I⟩⟩;obtain ⟨v',w',iH,pD,sJ,_⟩:=run_append_own (P:=P) w 0 t ty e i z size bytes hu.eq hi hzero gY gJ hz (by simpa using hsz) _ 0 xs pE ⟨b,o,none⟩ m cp news hl sG h1 bO hb (Zi _);have tP:=oq (P:=P) (t:=t) (ty:=ty) hu.eq hi hzero (by rw [gY];exact pE) (a:=⟨b,o,none⟩) (m:=m) (cp:=cp) (by rw [gY];exact hl) sG h1 bO (by rw [gJ];exact hb) iH;refine ⟨v',w',v'.ownBlock.toList,iH,⟨sJ.os,sJ.tape,sJ.output,tP.2,sJ.size,fun q hq _=>sJ.block q hq (by simp [Value.ownBlock])⟩,by cases v'.ownBlock <;> simp,o6 (kO pD),fun q hq=>?_⟩
   have uC:v'.ownBlock=some q:=by simpa [Option.mem_toList] using hq
   rcases tP.1 with h | h
   ·rw [uC] at h;simp [Value.ownBlock] at h
   ·rw [h] at uC;cases uC;exact .inr (Zy _)
  ·have X0:w.heap[g]? = some (.cells cur e (0,0)):=hg;have hgs:g<w.heap.size:=(Z6.1 X0).1;have Ut:cur.toList=cur.toList.take off++(xs++cur.toList.drop (off+n*size)):=by
    rw [<- htk]
    conv=>lhs;rw [<- Z0 off cur.toList]
    congr 1
    conv=>lhs;rw [<- Z0 (n*size) (cur.toList.drop off)]
    rw [Zbh]
   have Sh:cur.size=cur.toList.length:=by simp
   have hns:n*size<=cap*size:=Z7 _ hnc;have w9:(cur.toList.take off).length=off:=by rw [Zs];omega
   by_cases zH:n+m<=cap
   ·have hms:(n+m)*size<=cap*size:=Z7 _ zH;rw [Nat.add_mul] at hms;have Oc:w.heap[g]? = some (.cells cur.toList.toArray e (0,0)):=by rw [ZaY];exact X0
    obtain ⟨w',h3,h4,h5⟩:=jz (P:=P) (o:=off+n*size) news 0 cur.toList w Oc h1 (by omega);have hfc:=run_firstCells_some (P:=P) w i.size m ⟨b,o,none⟩ m cp news (by rw [gY];exact hl) sG;refine ⟨.slice (some ⟨g,off,none⟩) (n+m) cap,w',[g],?_,h4,by simp,⟨hlx,.inr ⟨g,off,cap,_,I,I,h5,zH,hcm,?_,?_⟩⟩,fun q hq=>.inl hq⟩
    ·subst gY;have MN:(⟨g,off,none⟩:Addr).add (n*i.size)=⟨g,off+n*i.size,none⟩:=eM _ _ _;simp [Builtin.append_,aY hu.eq,sizeOf,typeInfo,hi,Builtin.lenOf,zH,hfc,MN,h3]
    ·rw [Zbn,lg,<- Sh];exact hfit
    ·show ((setCells cur.toList (off+n*size+0) news).drop off).take ((n+m)*size)=xs++news;have e1:setCells cur.toList (off+n*size+0) news=cur.toList.take off++xs++(news++(cur.toList.drop (off+n*size)).drop news.length):=by
      have Ya:cur.toList.drop (off+n*size)=(cur.toList.drop (off+n*size)).take news.length++(cur.toList.drop (off+n*size)).drop news.length:=(Z0 _ _).symm;have hle:((cur.toList.drop (off+n*size)).take news.length).length=news.length:=by rw [Zs,ZaS];omega
      have e2:cur.toList=(cur.toList.take off++xs)++((cur.toList.drop (off+n*size)).take news.length++(cur.toList.drop (off+n*size)).drop news.length):=by rw [<- Ya,Zh];exact Ut
      have U1:(cur.toList.take off++xs).length=off+n*size+0:=by rw [Zg,w9,hlen,Zaw]
      conv=>lhs;rw [e2]
      rw [<- U1];exact AF _ _ _ _ hle.symm
     rw [e1,Zh,<- w9]
     conv=>lhs;rw [w9]
     rw [List.drop_left' w9,<- hlx,<- Zh,List.take_left]
   ·have holds:∀ j u,xs[j]? = some u->w.cell? ((⟨g,off,none⟩:Addr).add j)=some u:=fun j u hj=>by
     rw [eM];simp only [World.cell?,X0];rw [<- htk] at hj;have aK:j<n*size:=by
      have:=(Zn.1 hj).1;rw [Zs] at this;omega
     rw [List.getElem?_take_of_lt aK,Zbi] at hj;simpa using hj
    obtain ⟨v',w',iH,pD,sJ⟩:=run_append_arg_grows (P:=P) (w:=w) t ty e i z size bytes hu.eq hi hzero gY gJ hz Xs ⟨g,off,none⟩ n cap xs hlen holds ⟨b,o,none⟩ m cp news hl sG (by omega) bO hb;have hr:=run_append_grow (P:=P) w t ty e i z hu.eq hi hzero ⟨g,off,none⟩ n cap xs (by rw [gY];exact hlen) holds ⟨b,o,none⟩ m cp news (by rw [gY];exact hl) sG (by omega) (by unfold maxLen at bO;omega) (growslice_fits (by omega) (by rw [gJ];exact hb));have yB:w.drawn<=w'.drawn/\v'.ownBlock=some w.heap.size:=by
     rw [iH] at hr;cases hr;exact ⟨Nat.le_succ _,I⟩
    have XF:w'.ownsRow 0 e size v' (n+m) (xs++news):=⟨pD.1,pD.2.imp id fun ⟨g',iz,adH,e1,_,r⟩=>⟨g',iz,adH,e1,Zi _,r⟩⟩
    refine ⟨v',w',v'.ownBlock.toList,iH,⟨sJ.os,sJ.tape,sJ.output,yB.1,sJ.size,fun q hq _=>sJ.block q hq (by simp)⟩,by cases v'.ownBlock <;> simp,o6 (kO XF),fun q hq=>?_⟩
    rw [yB.2] at hq;simp at hq;exact .inr (by omega)
 obtain ⟨v',w',mw,iH,hk,hnf,iZ,tP⟩:=key;refine nn I ⟨eA _ _ _ _ _,?_⟩;rw [Oper.semAt_eq _ _ _ (by simp)];have:(execOp a.eval ⟨some d,.call ⟨.builtin .append,#[x,y],#[t,t]⟩,ty,pos,af,none⟩).run P w=.ok (.value v') w':=by
  simp [execOp,resolve,invoke,builtin,hx a ba.du,hy a ba.du,iH]
 rw [this];refine k v' _ _ ((ba.put (by simpa [Zac] using hd) v').heap ?_);have ni:Mem c ([lz e size v n xs]++(hs'++nB D)) w:=ba.mem.take (ht.append _);have:=Mem.change (Bs:=[lz e size v' (n+m) (xs++news)]) (w':=w') ni fun fp uD hf=>by
  obtain ⟨g1,g2,e1,hr,e2⟩:=hf;obtain rfl:g2=[]:=e2;have h3:=Gf hr;have h4:=Gf R6;rw [ZJ] at e1;subst e1;rw [h3,<- h4];exact ⟨hk,mw,hnf,⟨mw,[],by simp,iZ,I⟩,tP⟩
 exact this
end
end Go.SL
