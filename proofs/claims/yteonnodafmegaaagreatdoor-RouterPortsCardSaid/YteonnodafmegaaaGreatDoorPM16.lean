/- Parts of the proof: NE NF NG TryzBits NH NI PP. -/
import Derived.Test.YteonnodafmegaaaGreatDoorPM15
import Derived.Test.YteonnodafmegaaaGreatDoorPM04
import Derived.Test.YteonnodafmegaaaGreatDoorPM06
import Derived.Shelf.Bits.Mul64
import Derived.Ground.NamesProg
import Derived.Ground.Names2Prog
import Derived.Test.YteonnodafmegaaaGreatDoorProg
import Derived.Test.YteonnodafmegaaaGreatDoorPM03
import Derived.Test.YteonnodafmegaaaGreatDoorPM11
set_option linter.unusedSectionVars false
set_option linter.unusedVariables false
set_option linter.unusedSimpArgs false
namespace Go.Proofs.A1
open Go Go.SL
open Tryz
open Tryz renaming prog->T_
def r7 (r:Ro) (a b:ByteArray):Int:=aY [bL (!eZ (dh r) a) 10,V8 b,bL (eZ (dh r) b) 9]
def cg {α:Type} (f:α->α) (l:List α) (k:Nat):List α:=(l.take k).map f++l.drop k
theorem ka {α:Type} (f:α->α) (l:List α) (k:Nat):(cg f l k).length=l.length:=by
 unfold cg;rw [Zg,Zd,Zs,ZaU];omega
theorem gM {α:Type} (f:α->α) {l:List α} {k:Nat} (h:k<l.length):(cg f l k)[k]'(by rw [ka];exact h)=l[k]:=by
 unfold cg;rw [Zap (by rw [Zd,Zs];omega),List.getElem_drop];congr 1;rw [Zd,Zs];omega
theorem jQ {α:Type} (f:α->α) {l:List α} {k:Nat} (h:k<l.length):(cg f l k).set k (f l[k])=cg f l (k+1):=by
 unfold cg;rw [Zbm _ _ (by rw [Zd,Zs];omega),Zd,Zs,Zm h,Zy,Zh,show k-min k l.length=0 by omega,Zt h]
 rfl
theorem k7 {α:Type} (f:α->α) (l:List α):cg f l l.length=l.map f:=by
 unfold cg;rw [ZL,ZY,ZK]
theorem kO {α:Type} {cells:α->List Value} {sz:Nat} (hsz:∀ x,(cells x).length=sz) (l:List α) (cur:List Value) {k i:Nat} (h:k<l.length) (hi:i<sz) (v:Value) (y:α) (hy:cells y=(cells l[k]).set i v) :
  setCells ((l.map cells).flatten++cur) (k*sz+i) [v]=((l.set k y).map cells).flatten++cur:=by
 have hl:∀ (m:List α),((m.map cells).flatten).length=m.length*sz:=fun m=>by
  induction m with
  | nil=>simp
  | cons x m ih=>rw [Z4,Zak,Zg,hsz,ih,ZB,Zac,Nat.add_comm]
 have hle:k*sz+i<l.length*sz:=by
  have:(k+1)*sz<=l.length*sz:=Z0 _ h;rw [Zac] at this;omega
 rw [kN _ _ _ (by rw [Zg,hl];omega),Zbr _ _ (by rw [hl];exact hle)];congr 1;have e:l=l.take k++l[k]::l.drop (k+1):=by rw [<- Zt h,ZX]
 have ht:(((l.take k).map cells).flatten).length=k*sz:=by rw [hl,Zs,Zbf (by omega)]
 have hs:∀ (a:List α) (x:α) (b:List α),((a++x::b).map cells).flatten=(a.map cells).flatten++(cells x++(b.map cells).flatten):=fun a x b=>by simp
 rw [show l.set k y=l.take k++y::l.drop (k+1) by rw [List.set_eq_take_append_cons_drop,if_pos h],hs]
 conv=>lhs;rw [e,hs]
 rw [Zbm _ _ (by omega),ht,Zbd,Zbr _ _ (by rw [hsz];exact hi),hy]
theorem l6 {α:Type} {cells:α->List Value} {sz:Nat} (hsz:∀ x,(cells x).length=sz) (cur:List Value):∀ (l:List α) {k i:Nat} (h:k<l.length),i<sz->((l.map cells).flatten++cur)[k*sz+i]? = (cells l[k])[i]?
 | [],k,_,h,_=>absurd h (ZV _)
 | x :: l, 0, i, _, hi => by
  rw [Z4,Zak,Zh,Zbh,ZF,Zx (by rw [hsz];exact hi)];rfl
 | x :: l, k + 1, i, h, hi => by
  have:=l6 hsz cur l (k:=k) (i:=i) (Nat.lt_of_succ_lt_succ h) hi;rw [Z4,Zak,Zh,ZC (by rw [hsz,Zac];omega),hsz,show (k+1)*sz+i-sz=k*sz+i by rw [Zac];omega,this];rfl
theorem l8 (s a b:ByteArray) (w:World):an T_ 190 [.string s,.string a,.string b] w (.string (ng a b s)):=by
 refine aj func190 I I ?_
 (refine Jr<|Ja I<|Jn<|Jq<|Jr<|Jv I<|Jv I<|ab (dD (.of I) (.of I)) I<|Jn<|gL I (fun aA=>?_) fun aA=>?_;refine Jr<|Jv I<|Ja I<|Jn<|Ju<|JT ?_;rotate_left;refine Jk<|Jr<|Jv I<|Ja I<|Jn<|Je<|JT ?_;rotate_right)
 ·unfold ng;rw [if_pos aA]
 ·unfold ng;rw [if_neg aA]
set_option maxHeartbeats 2000000 in
theorem Ho {r:Ro} {s d t p:Value} (a b:ByteArray) {w:World} (h:RR w r s d t p) (Bo:gU r) :
  a8 T_ 81 [.agg #[.q r.lv,.q r.ma,s,d,t,p],.string a,.string b] w [] (fun _:Value×Value×Value×Value=>True) (fun x=>.tuple #[RA (if r7 r a b=0 then r.wy a b else Ro.nil) x.1 x.2.1 x.2.2.1 x.2.2.2,.q (r7 r a b)]) (fun x=>oZ (if r7 r a b=0 then r.wy a b else Ro.nil) x):=by
 obtain ⟨h1,h2,h3,h4⟩:=h.one;refine aS func81 I I ?_;refine Jr<|Jy I I fun _ _=>Jz I I fun _ _=>Ja I<|Jn<|Jq<|Jq ?_;rename_i b3 rz b6 Vk
 with_reducible refine dL 16 (by kernel_rfl) ?_
 refine au (fun β=>(bQ (.of I) (.there .here) ai (by rfl))) ba I ?_;dsimp only [Nat.zero_add,Nat.reduceAdd]
 with_reducible apply dZ (ι:=Value) (Φ:=fun _=>True) (val:=fun x=>x) (own:=fun x=>[row 9 1 x (dh r).length (aR (dh r))]) (g:=id) (B:=[]) (args:=fun _=>[.agg #[.q r.lv,.q r.ma,s,d,t,p]])
 case hg=>exact fun x=>⟨x,I⟩
 case hB=>rfl
 case hr=>exact fun β=>a7 (.of I) (.o I .nil) inferInstance I
 case hd=>rfl
 case hc=>exact fun β w' hb=>vo (h.keeps hb.mem.keeps) Bo
 dsimp only [id_eq,Nat.reduceAdd];refine au (fun β=>(aQ (.of I))) ba I ?_;dsimp only [Nat.zero_add,Nat.reduceAdd]
 with_reducible apply cj (B:=[1]) (F:=fun _=>.bool (eZ (dh r) a)) (args:=fun β=>[β 1,.string a])
 case hB=>kernel_rfl
 case hr=>exact fun β=>a7 (.of I) (.o I (.o I .nil)) inferInstance I
 case hi=>exact ba
 case hd=>rfl
 case hc=>
  intro β w' hb;have m1:=hb.at 1 Zr I;dsimp only at m1;have m5:Rd w' (β 1) 1 (fN (dh r)):=ez (E:=9) m1 .here I;exact Bm a m5
 dsimp only [Nat.reduceAdd];refine au (fun β=>(fu (.of I))) ba I ?_;dsimp only [Nat.zero_add,Nat.reduceAdd]
 with_reducible apply cj (B:=[]) (F:=fun _=>.q (bL (!eZ (dh r) a) 10)) (args:=fun _=>[.bool (!eZ (dh r) a),.q 10])
 case hB=>rfl
 case hr=>exact fun β=>a7 (.of I) ((.o I (.o I .nil))) inferInstance I
 case hi=>exact ba
 case hd=>rfl
 case hc=>exact fun β w' hb=>lW _ _ _
 dsimp only [Nat.reduceAdd];refine au (fun β=>(aQ (.of I))) ba I ?_;dsimp only [Nat.zero_add,Nat.reduceAdd]
 with_reducible apply cj (B:=[]) (F:=fun _=>.q (V8 b)) (args:=fun _=>[.string b])
 case hB=>rfl
 case hr=>exact fun β=>a7 (.of I) ((.o I .nil)) inferInstance I
 case hi=>exact ba
 case hd=>rfl
 case hc=>exact fun β w' hb=>V7 _ _
 dsimp only [Nat.reduceAdd];refine au (fun β=>(bQ (.of I) (.there .here) ai (by rfl))) ba I ?_;dsimp only [Nat.zero_add,Nat.reduceAdd]
 with_reducible apply dZ (ι:=Value) (Φ:=fun _=>True) (val:=fun x=>x) (own:=fun x=>[row 9 1 x (dh r).length (aR (dh r))]) (g:=id) (B:=[]) (args:=fun _=>[.agg #[.q r.lv,.q r.ma,s,d,t,p]])
 case hg=>exact fun x=>⟨x,I⟩
 case hB=>rfl
 case hr=>exact fun β=>a7 (.of I) (.o I .nil) inferInstance I
 case hd=>rfl
 case hc=>exact fun β w' hb=>vo (h.keeps hb.mem.keeps) Bo
 dsimp only [id_eq,Nat.reduceAdd];refine au (fun β=>(aQ (.of I))) ba I ?_;dsimp only [Nat.zero_add,Nat.reduceAdd]
 with_reducible apply cj (B:=[9]) (F:=fun _=>.bool (eZ (dh r) b)) (args:=fun β=>[β 9,.string b])
 case hB=>kernel_rfl
 case hr=>exact fun β=>a7 (.of I) (.o I (.o I .nil)) inferInstance I
 case hi=>exact ba
 case hd=>rfl
 case hc=>
  intro β w' hb;have m1:=hb.at 9 Zr I;dsimp only at m1;have m5:Rd w' (β 9) 1 (fN (dh r)):=ez (E:=9) m1 .here I;exact Bm b m5
 dsimp only [Nat.reduceAdd]
 with_reducible apply cj (B:=[]) (F:=fun _=>.q (bL (eZ (dh r) b) 9)) (args:=fun _=>[.bool (eZ (dh r) b),.q 9])
 case hB=>rfl
 case hr=>exact fun β=>a7 (.of I) ((.o I (.o I .nil))) inferInstance I
 case hi=>exact ba
 case hd=>rfl
 case hc=>exact fun β w' hb=>lW _ _ _
 dsimp only [Nat.reduceAdd];refine iG (fun β=>(aD (.o I (.o I (.o I .nil))) I I I I)) (fun _ _ _=>rfl) I ?_;dsimp only [Nat.reduceAdd]
 with_reducible apply cj (B:=[13]) (F:=fun _=>.q (r7 r a b)) (args:=fun β=>[.slice (some ⟨eu (β 13),0,none⟩) 3 3])
 case hB=>kernel_rfl
 case hr=>exact fun β=>a7 (.of I) (.o I .nil) inferInstance I
 case hi=>exact ba
 case hd=>rfl
 case hc=>
  intro β w' hb;have m2:=hb.at 13 Zr (s:=⟨fun β=>.slice (some ⟨eu (β 13),0,none⟩) 3 3,fun β=>[bu (eu (β 13)) (.cells #[.q (bL (!eZ (dh r) a) 10),.q (V8 b),.q (bL (eZ (dh r) b) 9)] 3 (0,0))]⟩) (by kernel_rfl)
  dsimp only [Zb,Za] at m2;exact GD _ [bL (!eZ (dh r) a) 10,V8 b,bL (eZ (dh r) b) 9] w' (Mem.dy m2 (by exact .here) I I)
 dsimp only [Nat.reduceAdd];refine au (fun β=>(cX (.of I))) ba I ?_;refine eN fun β=>?_;dsimp only [dW,Za,Zb,List.append_eq,Nat.reduceAdd];generalize β 1=n1;generalize β 9=n9;generalize eu (β 13)=g13;clear β
 with_reducible refine cn (by kernel_rfl) ?_
 refine dS [bu b6 (.cells #[.q 0,.q 0,.z,.z,.z,.z] 27 (0,0)),JQ b3 r s d t p] (by exact .cons cI (.cons cI .nil)) ?_;by_cases he:r7 r a b=0
 rotate_left
 ·rw [if_neg he]
  (refine Jt<|Jr<|Jv I<|JD I<|Jn<|Jd I fun aA=>Jr<|ab (aU .nil ai) I<|Jv I<|ak (.of I) (.of I) .here I I (dO I I I I I I) (br I) ai<|Ja I<|Jn<|Ju ?_)
  refine aJ 118 2 ?_;refine aJ 88 3 ?_;refine aJ 122 3 ?_;refine aJ 180 3 ?_
  with_reducible first|apply aO|apply aP
  case he=>exact kl I inferInstance I c7 ai (by rfl) (by rfl)
  case hR=>
   intro w' aB;exact aC (.z,.z,.z,.z) trivial (by exact .cons cI (.cons bE (.cons (.there .here) (.h1 .nil)))) aB I
 rw [if_pos he,he];refine Jt<|Jr<|Jv I<|JD I<|Jn<|Jc I fun aA=>Jk<|Jr<|ab (bU (.there .here)) I ?_;refine JN bJ I (fun w1 aT=>CT (h.keeps aT.keeps) Bo) ?_;rintro ⟨s1,d1,t1,p1⟩ _
 try dsimp only [id_eq,Zb,Za]
 refine gO (r:=r) (s:=s1) (d:=d1) (t:=t1) (p:=p1) (bo _ _) fun k1 k2 k3 k4=>?_;unfold RA
 (refine Jz I I fun _ _=>ak (.of I) (.of I) .here I I (dO I I k1 k2 k3 k4) (br I) ai<|Jn<|Jq<|Jr<|Ja I<|Jn<|J0 ?_)
 rename_i b9 hb9;refine aV (ι:=Nat) (fun k=>k<=r.sr.length) (fun k=>[(10,.q (k:Nat)),(9,.p b9),(1,.string a),(2,.string b),(3,.p b3),(6,.p b6)]) (fun k=>[JQ b9 r s1 d1 t1 p1,row 118 2 s1 r.sr.length (il (cg (iL a b) r.sr k)),row 88 3 d1 r.de.length (gm r.de),row 122 3 t1 r.ti.length (iC r.ti),row 180 3 p1 r.po.length (eF r.po),bu b6 (.cells #[.q 0,.q 0,.z,.z,.z,.z] 27 (0,0)),JQ b3 r s d t p]) (fun k=>r.sr.length-k) ?_ ?_
 ·apply aH 0 (show 0<=r.sr.length from Zi _)
  case hs1=>exact bT
  case ht=>
   exact .h7 .nil
 intro k hk
 try dsimp only at hk ⊢
 by_cases aL:k<r.sr.length
 ·have mS:∀ i,(cg (iL a b) r.sr i).length=r.sr.length:=ka _ _;have hsz:∀ x:Sr,(Sr.cells x).length=2:=fun _=>rfl
  have rr:k<(cg (iL a b) r.sr k).length:=by rw [mS];exact aL
  have nI:∀ l:List Sr,(il l).length=l.length*2:=fun l=>vd l
  refine cm (E:=118) (sz:=2) (v:=s1) (by exact Take.there .here) (by omega) fun gd cap cur e yw sF ru Nx=>?_;subst e;have pO:=sF;unfold maxLen at pO;have fZ:(il (cg (iL a b) r.sr k)++cur)[k*2]? = some (.string r.sr[k].nm):=by
   have:=l6 hsz cur (cg (iL a b) r.sr k) (k:=k) (i:=0) rr (by decide);rw [gM _ aL] at this;exact this
  have p0:setCells (il (cg (iL a b) r.sr k)++cur) (k*2) [.string (ng a b r.sr[k].nm)]=il (cg (iL a b) r.sr (k+1))++cur:=by
   rw [<- jQ (iL a b) aL];exact kO hsz (cg (iL a b) r.sr k) cur (k:=k) (i:=0) rr (by decide) _ (iL a b r.sr[k]) (by rw [gM _ aL];rfl)
  have hle:k*2+1<=(il (cg (iL a b) r.sr k)++cur).length:=by rw [Zg,nI,mS];omega
  generalize r.sr[k].nm=x at fZ p0
  (refine Jq<|Jr<|Jv I<|bD I I ae<|JL I (.there .here) I<|JI I<|JA I<|Jn<|Jd I fun aA=>Jk<|Jq<|J0 ?_)
  with_reducible refine cz 14 (by kernel_rfl) ?_
  (refine jH I I ae<|aq (gn (.there .here)) I<|fw I I<|jH I I ae<|aq (gn (.there .here)) I<|fw I I<|aq (ao (.of I) (.of I) I (by omega) aA aW) I<|jH I I ae<|aq (ag (.of I) (At.kB .here fZ)) I<|fw I I<|fw I I<|cW dU I (fun w' aB=>(l8 x a b w'))<|aq (ao (.of I) (.of I) I (by omega) aA aW) I<|jH I I ae ?_)
  with_reducible refine cC ?_
  (refine ak (.of I) (.of I) .here I I (dE I) hle p0<|Jx<|Jj<|Jt<|Jg<|Jv I<|JB I (by omega)<|Ja I<|Jn ?_)
  have oE:(il (cg (iL a b) r.sr (k+1))++cur).length=cap*2:=by rw [Zg,nI,mS] at ru ⊢;exact ru
  refine ct (n:=r.sr.length) (xs:=il (cg (iL a b) r.sr (k+1))) (cap:=cap) (g:=gd) (E:=118) (sz:=2) (by exact .here) yw sF oE (by rw [nI,mS]) ?_;apply aG (k+1) (show k+1<=r.sr.length from aL) (show r.sr.length-(k+1)<r.sr.length-k by omega)
  case hs1=>exact bT
  case ht=>exact jv
 obtain rfl:k=r.sr.length:=by omega
 refine aK (E:=118) (sz:=2) (v:=s1) (by exact Take.there .here) fun a0 c0 e=>?_;subst e;rw [k7]
 (refine Jq<|Jr<|Jv I<|bD I I ae<|JL I .here I<|JI I<|JA I<|Jn<|Jc I fun aA=>Jp<|Jl<|Jo<|Jt<|Jq<|Jr<|Ja I<|Jn<|J0 ?_)
 refine aV (ι:=Nat) (fun k=>k<=r.de.length) (fun k=>[(11,.q (k:Nat)),(9,.p b9),(1,.string a),(2,.string b),(3,.p b3),(6,.p b6)]) (fun k=>[JQ b9 r (.slice a0 r.sr.length c0) d1 t1 p1,row 118 2 (.slice a0 r.sr.length c0) r.sr.length (il (r.sr.map (iL a b))),row 88 3 d1 r.de.length (gm (cg (je a b) r.de k)),row 122 3 t1 r.ti.length (iC r.ti),row 180 3 p1 r.po.length (eF r.po),bu b6 (.cells #[.q 0,.q 0,.z,.z,.z,.z] 27 (0,0)),JQ b3 r s d t p]) (fun k=>r.de.length-k) ?_ ?_
 ·apply aH 0 (show 0<=r.de.length from Zi _)
  case hs1=>exact bT
  case ht=>
   exact .h7 .nil
 intro k hk
 try dsimp only at hk ⊢
 by_cases aL:k<r.de.length
 ·have mS:∀ i,(cg (je a b) r.de i).length=r.de.length:=ka _ _;have hsz:∀ x:De,(De.cells x).length=3:=fun _=>rfl
  have rr:k<(cg (je a b) r.de k).length:=by rw [mS];exact aL
  have nI:∀ l:List De,(gm l).length=l.length*3:=fun l=>vF l
  refine cm (E:=88) (sz:=3) (v:=d1) bE (by omega) fun gd cap cur e yw sF ru Nx=>?_;subst e;have pO:=sF;unfold maxLen at pO;have fZ:(gm (cg (je a b) r.de k)++cur)[k*3]? = some (.string r.de[k].nm):=by
   have:=l6 hsz cur (cg (je a b) r.de k) (k:=k) (i:=0) rr (by decide);rw [gM _ aL] at this;exact this
  have p0:setCells (gm (cg (je a b) r.de k)++cur) (k*3) [.string (ng a b r.de[k].nm)]=gm (cg (je a b) r.de (k+1))++cur:=by
   rw [<- jQ (je a b) aL];exact kO hsz (cg (je a b) r.de k) cur (k:=k) (i:=0) rr (by decide) _ (je a b r.de[k]) (by rw [gM _ aL];rfl)
  have hle:k*3+1<=(gm (cg (je a b) r.de k)++cur).length:=by rw [Zg,nI,mS];omega
  generalize r.de[k].nm=x at fZ p0
  (refine Jq<|Jr<|Jv I<|bD I I ae<|JL I (.there .here) I<|JI I<|JA I<|Jn<|Jd I fun aA=>Jk<|Jq<|J0 ?_)
  with_reducible refine cz 14 (by kernel_rfl) ?_
  (refine jH I I ae<|aq (gn (.there .here)) I<|fw I I<|jH I I ae<|aq (gn (.there .here)) I<|fw I I<|aq (ao (.of I) (.of I) I (by omega) aA aW) I<|jH I I ae<|aq (ag (.of I) (At.kB .here fZ)) I<|fw I I<|fw I I<|cW dU I (fun w' aB=>(l8 x a b w'))<|aq (ao (.of I) (.of I) I (by omega) aA aW) I<|jH I I ae ?_)
  with_reducible refine cC ?_
  (refine ak (.of I) (.of I) .here I I (dE I) hle p0<|Jx<|Jj<|Jt<|Jg<|Jv I<|JB I (by omega)<|Ja I<|Jn ?_)
  have oE:(gm (cg (je a b) r.de (k+1))++cur).length=cap*3:=by rw [Zg,nI,mS] at ru ⊢;exact ru
  refine ct (n:=r.de.length) (xs:=gm (cg (je a b) r.de (k+1))) (cap:=cap) (g:=gd) (E:=88) (sz:=3) (by exact .here) yw sF oE (by rw [nI,mS]) ?_;apply aG (k+1) (show k+1<=r.de.length from aL) (show r.de.length-(k+1)<r.de.length-k by omega)
  case hs1=>exact bT
  case ht=>exact jv
 obtain rfl:k=r.de.length:=by omega
 refine aK (E:=88) (sz:=3) (v:=d1) bE fun a1 c1 e=>?_;subst e;rw [k7]
 (refine Jq<|Jr<|Jv I<|bD I I ae<|JL I .here I<|JI I<|JA I<|Jn<|Jc I fun aA=>Jp<|Jl<|Jo<|Jt<|Jq<|Jr<|Ja I<|Jn<|J0 ?_)
 refine aV (ι:=Nat) (fun k=>k<=r.ti.length) (fun k=>[(12,.q (k:Nat)),(9,.p b9),(1,.string a),(2,.string b),(3,.p b3),(6,.p b6)]) (fun k=>[JQ b9 r (.slice a0 r.sr.length c0) (.slice a1 r.de.length c1) t1 p1,row 118 2 (.slice a0 r.sr.length c0) r.sr.length (il (r.sr.map (iL a b))),row 88 3 (.slice a1 r.de.length c1) r.de.length (gm (r.de.map (je a b))),row 122 3 t1 r.ti.length (iC (cg (jB a b) r.ti k)),row 180 3 p1 r.po.length (eF r.po),bu b6 (.cells #[.q 0,.q 0,.z,.z,.z,.z] 27 (0,0)),JQ b3 r s d t p]) (fun k=>r.ti.length-k) ?_ ?_
 ·apply aH 0 (show 0<=r.ti.length from Zi _)
  case hs1=>exact bT
  case ht=>
   exact .h7 .nil
 intro k hk
 try dsimp only at hk ⊢
 by_cases aL:k<r.ti.length
 ·have mS:∀ i,(cg (jB a b) r.ti i).length=r.ti.length:=ka _ _;have hsz:∀ x:Ti,(Ti.cells x).length=3:=fun _=>rfl
  have rr:k<(cg (jB a b) r.ti k).length:=by rw [mS];exact aL
  have nI:∀ l:List Ti,(iC l).length=l.length*3:=fun l=>u6 l
  refine cm (E:=122) (sz:=3) (v:=t1) cI (by omega) fun gd cap cur e yw sF ru Nx=>?_;subst e;have pO:=sF;unfold maxLen at pO;have fZ:(iC (cg (jB a b) r.ti k)++cur)[k*3]? = some (.string r.ti[k].nm):=by
   have:=l6 hsz cur (cg (jB a b) r.ti k) (k:=k) (i:=0) rr (by decide);rw [gM _ aL] at this;exact this
  have p0:setCells (iC (cg (jB a b) r.ti k)++cur) (k*3) [.string (ng a b r.ti[k].nm)]=iC (cg (jB a b) r.ti (k+1))++cur:=by
   rw [<- jQ (jB a b) aL];exact kO hsz (cg (jB a b) r.ti k) cur (k:=k) (i:=0) rr (by decide) _ (jB a b r.ti[k]) (by rw [gM _ aL];rfl)
  have hle:k*3+1<=(iC (cg (jB a b) r.ti k)++cur).length:=by rw [Zg,nI,mS];omega
  generalize r.ti[k].nm=x at fZ p0
  (refine Jq<|Jr<|Jv I<|bD I I ae<|JL I (.there .here) I<|JI I<|JA I<|Jn<|Jd I fun aA=>Jk<|Jq<|J0 ?_)
  with_reducible refine cz 14 (by kernel_rfl) ?_
  (refine jH I I ae<|aq (gn (.there .here)) I<|fw I I<|jH I I ae<|aq (gn (.there .here)) I<|fw I I<|aq (ao (.of I) (.of I) I (by omega) aA aW) I<|jH I I ae<|aq (ag (.of I) (At.kB .here fZ)) I<|fw I I<|fw I I<|cW dU I (fun w' aB=>(l8 x a b w'))<|aq (ao (.of I) (.of I) I (by omega) aA aW) I<|jH I I ae ?_)
  with_reducible refine cC ?_
  (refine ak (.of I) (.of I) .here I I (dE I) hle p0<|Jx<|Jj<|Jt<|Jg<|Jv I<|JB I (by omega)<|Ja I<|Jn ?_)
  have oE:(iC (cg (jB a b) r.ti (k+1))++cur).length=cap*3:=by rw [Zg,nI,mS] at ru ⊢;exact ru
  refine ct (n:=r.ti.length) (xs:=iC (cg (jB a b) r.ti (k+1))) (cap:=cap) (g:=gd) (E:=122) (sz:=3) (by exact .here) yw sF oE (by rw [nI,mS]) ?_;apply aG (k+1) (show k+1<=r.ti.length from aL) (show r.ti.length-(k+1)<r.ti.length-k by omega)
  case hs1=>exact bT
  case ht=>exact jv
 obtain rfl:k=r.ti.length:=by omega
 refine aK (E:=122) (sz:=3) (v:=t1) cI fun a2 c2 e=>?_;subst e;rw [k7]
 (refine Jq<|Jr<|Jv I<|bD I I ae<|JL I .here I<|JI I<|JA I<|Jn<|Jc I fun aA=>Jp<|Jl<|Jo<|Jt<|Jq<|Jr<|Ja I<|Jn<|J0 ?_)
 refine aV (ι:=Nat) (fun k=>k<=r.po.length) (fun k=>[(13,.q (k:Nat)),(9,.p b9),(1,.string a),(2,.string b),(3,.p b3),(6,.p b6)]) (fun k=>[JQ b9 r (.slice a0 r.sr.length c0) (.slice a1 r.de.length c1) (.slice a2 r.ti.length c2) p1,row 118 2 (.slice a0 r.sr.length c0) r.sr.length (il (r.sr.map (iL a b))),row 88 3 (.slice a1 r.de.length c1) r.de.length (gm (r.de.map (je a b))),row 122 3 (.slice a2 r.ti.length c2) r.ti.length (iC (r.ti.map (jB a b))),row 180 3 p1 r.po.length (eF (cg (fI a b) r.po k)),bu b6 (.cells #[.q 0,.q 0,.z,.z,.z,.z] 27 (0,0)),JQ b3 r s d t p]) (fun k=>r.po.length-k) ?_ ?_
 ·apply aH 0 (show 0<=r.po.length from Zi _)
  case hs1=>exact bT
  case ht=>
   exact .h7 .nil
 intro k hk
 try dsimp only at hk ⊢
 by_cases aL:k<r.po.length
 ·have mS:∀ i,(cg (fI a b) r.po i).length=r.po.length:=ka _ _;have hsz:∀ x:Po,(Po.cells x).length=3:=fun _=>rfl
  have rr:k<(cg (fI a b) r.po k).length:=by rw [mS];exact aL
  have nI:∀ l:List Po,(eF l).length=l.length*3:=fun l=>gA l
  refine cm (E:=180) (sz:=3) (v:=p1) c7 (by omega) fun gd cap cur e yw sF ru Nx=>?_;subst e;have pO:=sF;unfold maxLen at pO;have fZ:(eF (cg (fI a b) r.po k)++cur)[k*3+1]? = some (.string r.po[k].ou):=by
   have:=l6 hsz cur (cg (fI a b) r.po k) (k:=k) (i:=1) rr (by decide);rw [gM _ aL] at this;exact this
  have p0:setCells (eF (cg (fI a b) r.po k)++cur) (k*3+1) [.string (ng a b r.po[k].ou)]=eF ((cg (fI a b) r.po k).set k ⟨r.po[k].lv,ng a b r.po[k].ou,r.po[k].ip⟩)++cur:=
   kO hsz (cg (fI a b) r.po k) cur (k:=k) (i:=1) rr (by decide) _ _ (by rw [gM _ aL];rfl)
  have Bd:k<((cg (fI a b) r.po k).set k ⟨r.po[k].lv,ng a b r.po[k].ou,r.po[k].ip⟩).length:=by rw [List.length_set];exact rr
  have EY:(eF ((cg (fI a b) r.po k).set k ⟨r.po[k].lv,ng a b r.po[k].ou,r.po[k].ip⟩)++cur)[k*3+2]? = some (.string r.po[k].ip):=by
   have:=l6 hsz cur ((cg (fI a b) r.po k).set k ⟨r.po[k].lv,ng a b r.po[k].ou,r.po[k].ip⟩) (k:=k) (i:=2) Bd (by decide);rw [List.getElem_set_self] at this;exact this
  have p2:setCells (eF ((cg (fI a b) r.po k).set k ⟨r.po[k].lv,ng a b r.po[k].ou,r.po[k].ip⟩)++cur) (k*3+2) [.string (ng a b r.po[k].ip)]=eF (cg (fI a b) r.po (k+1))++cur:=by
   have e9:cg (fI a b) r.po (k+1)=((cg (fI a b) r.po k).set k ⟨r.po[k].lv,ng a b r.po[k].ou,r.po[k].ip⟩).set k (fI a b r.po[k]):=by rw [List.set_set,jQ (fI a b) aL]
   rw [e9];exact kO hsz _ cur (k:=k) (i:=2) Bd (by decide) (.string (ng a b r.po[k].ip)) (fI a b r.po[k]) (by rw [List.getElem_set_self];rfl)
  have hle:k*3+1+1<=(eF (cg (fI a b) r.po k)++cur).length:=by rw [Zg,nI,mS];omega
  have LN:k*3+2+1<=(eF ((cg (fI a b) r.po k).set k ⟨r.po[k].lv,ng a b r.po[k].ou,r.po[k].ip⟩)++cur).length:=by rw [Zg,nI,List.length_set,mS];omega
  generalize r.po[k].ou=x at fZ p0 Bd EY p2 LN;generalize r.po[k].ip=y at fZ p0 Bd EY p2 LN
  (refine Jq<|Jr<|Jv I<|bD I I ae<|JL I (.there .here) I<|JI I<|JA I<|Jn<|Jd I fun aA=>Jk<|Jq<|J0<|Jq ?_)
  with_reducible refine cz 14 (by kernel_rfl) ?_
  (refine jH I I ae<|aq (gn (.there .here)) I<|fw I I<|jH I I ae<|aq (gn (.there .here)) I<|fw I I<|aq (ao (.of I) (.of I) I (by omega) aA aW) I<|jH I I ae<|aq (ag (.of I) (At.kB .here fZ)) I<|fw I I<|fw I I<|cW dU I (fun w' aB=>(l8 x a b w'))<|aq (ao (.of I) (.of I) I (by omega) aA aW) I<|jH I I ae ?_)
  with_reducible refine cC ?_
  (refine ak (.of I) (.of I) .here I I (dE I) hle p0<|Jn ?_)
  skip
  with_reducible refine cz 14 (by kernel_rfl) ?_
  (refine jH I I ae<|aq (gn (.there .here)) I<|fw I I<|jH I I ae<|aq (gn (.there .here)) I<|fw I I<|aq (ao (.of I) (.of I) I (by omega) aA aW) I<|jH I I ae<|aq (ag (.of I) (At.kB .here EY)) I<|fw I I<|fw I I<|cW dU I (fun w' aB=>(l8 y a b w'))<|aq (ao (.of I) (.of I) I (by omega) aA aW) I<|jH I I ae ?_)
  with_reducible refine cC ?_
  (refine ak (.of I) (.of I) .here I I (dE I) LN p2<|Jx<|Jj<|Jt<|Jg<|Jv I<|JB I (by omega)<|Ja I<|Jn ?_)
  have oE:(eF (cg (fI a b) r.po (k+1))++cur).length=cap*3:=by rw [Zg,nI,mS] at ru ⊢;exact ru
  refine ct (n:=r.po.length) (xs:=eF (cg (fI a b) r.po (k+1))) (cap:=cap) (g:=gd) (E:=180) (sz:=3) (by exact .here) yw sF oE (by rw [nI,mS]) ?_;apply aG (k+1) (show k+1<=r.po.length from aL) (show r.po.length-(k+1)<r.po.length-k by omega)
  case hs1=>exact bT
  case ht=>exact jv
 obtain rfl:k=r.po.length:=by omega
 refine aK (E:=180) (sz:=3) (v:=p1) c7 fun a3 c3 e=>?_;subst e;rw [k7]
 (refine Jq<|Jr<|Jv I<|bD I I ae<|JL I .here I<|JI I<|JA I<|Jn<|Jc I fun aA=>Jp<|Jl<|Jo<|Jt<|Jr<|ab (bU .here) I<|ak (.of I) (.of I) ek I I (dO I I I I I I) (br I) ai<|Ja I<|Jn<|Je ?_)
 have e1:(r.wy a b).sr.length=r.sr.length:=Zd _;have e2:(r.wy a b).de.length=r.de.length:=Zd _;have e3:(r.wy a b).ti.length=r.ti.length:=Zd _;have e4:(r.wy a b).po.length=r.po.length:=Zd _
 with_reducible first|apply aO|apply aP
 case he=>exact kl I inferInstance I .here ai (by rfl) (by rfl)
 case hR=>
  intro w' aB;exact aC ((.slice a0 r.sr.length c0),(.slice a1 r.de.length c1),(.slice a2 r.ti.length c2),(.slice a3 r.po.length c3)) trivial (show bj _ [row 118 2 (.slice a0 r.sr.length c0) (r.wy a b).sr.length (il (r.sr.map (iL a b))),row 88 3 (.slice a1 r.de.length c1) (r.wy a b).de.length (gm (r.de.map (je a b))),row 122 3 (.slice a2 r.ti.length c2) (r.wy a b).ti.length (iC (r.ti.map (jB a b))),row 180 3 (.slice a3 r.po.length c3) (r.wy a b).po.length (eF (r.po.map (fI a b)))] _ by rw [e1,e2,e3,e4];exact .cons bE (.cons bE (.cons bE (.cons bE .nil)))) aB I
end Go.Proofs.A1
namespace Go.Proofs.A1
open Go Go.SL
open Tryz
open Tryz renaming prog->T_
theorem wx {g o p4 p5:Nat} {cs:List Value} {E:TypeId} {x a b:ByteArray} (ho:cs[o]? = some (.string x)) {w:World} {fp:List Nat} (iB:fp.Nodup) (hs:cy (hp w) [bu g (.cells cs.toArray E (0,0)),bu p4 (.cells #[.string a] 9 (0,0)),bu p5 (.cells #[.string b] 9 (0,0))] fp) :
  a8 T_ 188 [.pointer (some ⟨g,o,none⟩),.p p4,.p p5] w fp (fun _:Unit=>True) (fun _=>.tuple #[]) (fun _=>[bu g (.cells (setCells cs o [.string (ng a b x)]).toArray E (0,0)),bu p4 (.cells #[.string a] 9 (0,0)),bu p5 (.cells #[.string b] 9 (0,0))]):=by
 have aL:o<cs.length:=(Zl.1 ho).1;have hle:o+1<=cs.length:=aL;obtain ⟨C1,hC1⟩:∃ C,setCells cs o [.string b]=C:=⟨_,rfl⟩;have hC0:setCells cs o [.string x]=cs:=by
  rw [kN _ _ _ aL];obtain ⟨h1,h2⟩:=Zl.1 ho;rw [<- h2];exact List.set_getElem_self h1
 refine dT func188 I I iB hs ?_;refine pg ?_
 with_reducible refine cz 5 (by kernel_rfl) ?_
 (refine fw I I<|aq (dM (.of I)) I<|aq (ag (.of I) (At.kB .here ho)) I<|aq (gn (.there .here)) I<|aq (dD (.of I) (.of I)) I ?_)
 with_reducible refine cC ?_
 (refine Jn<|gL I (fun aA=>?_) fun aA=>?_;refine Jg<|Jv I<|JL I bE I<|ab (dM (.of I)) I<|ak (.of I) (.of I) .here I I (dE I) hle hC1<|Jx ?_;rotate_left;refine Jw ?_;rotate_right)
 ·rw [show ng a b x=b from if_pos aA,hC1]
  with_reducible first|apply aO|apply aP
  case he=>exact oQ I
  case hR=>
   intro w' aB;exact aC () trivial (by exact .h3 .nil) aB I
 ·rw [show ng a b x=x from if_neg aA,hC0]
  with_reducible first|apply aO|apply aP
  case he=>exact oQ I
  case hR=>
   intro w' aB;exact aC () trivial (by exact .h3 .nil) aB I
end Go.Proofs.A1
namespace Go.Proofs.A1
open Go Go.SL
open Tryz
open Tryz renaming prog->T_
def U1 (r:Ro) (a b:ByteArray):Int:=if fm r≠0 then fm r else r7 r a b
def Ni (r:Ro) (a b:ByteArray):Ro:=if U1 r a b≠0 then Ro.nil else r.wy a b
theorem KL {r:Ro} (hd:DT r) (s:ByteArray):(∃ x y z,(eS s (om r)).getD (kZ 0 0 0)=kZ x y z)/\(eS s (om r)).isSome=eZ (dh r) s:=by
 rw [oo hd];cases eZ (dh r) s
 ·exact ⟨⟨0,0,0,I⟩,I⟩
 ·exact ⟨⟨_,_,_,I⟩,I⟩
set_option maxHeartbeats 2000000 in
theorem Ih {r:Ro} {s d t p:Value} (a b:ByteArray) {w:World} (h:RR w r s d t p) (c6:mX r) :
  a8 T_ 80 [.agg #[.q r.lv,.q r.ma,s,d,t,p],.string a,.string b] w [] (fun _:Value×Value×Value×Value=>True) (fun x=>.tuple #[RA (Ni r a b) x.1 x.2.1 x.2.2.1 x.2.2.2,.q (U1 r a b)]) (fun x=>nV (Ni r a b) x):=by
 obtain ⟨h1,h2,h3,h4⟩:=h.one;have T8:∀ {w'},aI [] w w'->an T_ 34 [.agg #[.int .i64 r.lv,.int .i64 r.ma,s,d,t,p]] w' (.int .i64 (fm r)):=fun hk=>ei (h.keeps hk) c6
 refine aS func80 I I ?_;refine Jr<|Jy I I fun _ _=>Jy I I fun _ _=>Jy I I fun _ _=>Jz I I fun _ _=>Ja I<|Jn<|Jq<|Jr<|ab (bU cI) I ?_;rename_i b3 rz b4 sH b5 HS b6 Vk;by_cases fP:fm r=0
 rotate_left
 ·have hE:U1 r a b=fm r:=if_pos fP;have hX:Ni r a b=Ro.nil:=if_pos (by rw [hE];exact fP)
  (refine ah bJ I (fun w' aB=>(T8 (Mem.keeps aB)))<|Ja I<|Ji<|Jv I<|JD I<|Jn<|Jd I fun aA=>Jr<|ab (aU .nil ai) I<|Jv I<|ak (.of I) (.of I) .here I I (dO I I I I I I) (br I) ai<|Ja I<|Jn<|Ju ?_)
  rw [hX,hE];refine aJ 186 2 ?_;refine aJ 90 3 ?_;refine aJ 187 3 ?_;refine aJ 188 3 ?_
  with_reducible first|apply aO|apply aP
  case he=>exact kl I inferInstance I c7 ai (by rfl) (by rfl)
  case hR=>
   intro w' aB;exact aC (.z,.z,.z,.z) trivial (by exact .cons cI (.cons bE (.cons (.there .here) (.h1 .nil)))) aB I
 have hE:U1 r a b=r7 r a b:=if_neg (not_not_intro fP);have dP:=yn fP;have WG:=j5 dP dP.val;have ku:=dP.Qf;obtain ⟨⟨x1,x2,x3,PJ⟩,hka⟩:=KL ku a;obtain ⟨⟨y1,y2,y3,hlb⟩,hkb⟩:=KL ku b;have adh:=dP.len;rw [fP] at T8
 (refine ah bJ I (fun w' aB=>(T8 (Mem.keeps aB)))<|Ja I<|Ji<|Jv I<|JD I<|Jn<|Jc I fun aA=>Jk<|Jr<|ab (bU cI) I ?_)
 refine JN bJ I (fun w1 aT=>AN (h.keeps aT.keeps) (by omega)) ?_;rintro mb _
 try dsimp only [id_eq,Zb,Za]
 refine Ja I<|Ji<|Jv I<|JL I cI I ?_;refine ab (oe (.of I) (.of I) (Looks.mp (by exact .here)) PJ) I ?_;rw [hka];unfold kZ
 (refine Jv I<|JJ I I<|JJ I I<|Jz I I fun _ _=>ak (.of I) (.of I) .here I I (fc I I I) (br I) ai<|Ja I<|Ji<|Jv I<|JL I cI I ?_)
 refine ab (oe (.of I) (.of I) (Looks.mp (by exact Take.there .here)) hlb) I ?_;rw [hkb];unfold kZ
 (refine Jv I<|JJ I I<|JJ I I<|Jz I I fun _ _=>ak (.of I) (.of I) .here I I (fc I I I) (br I) ai<|Ja I<|Jn<|Jq<|Jq ?_)
 with_reducible refine dL 12 (by kernel_rfl) ?_
 refine au (fun β=>(aQ (.of I))) ba I ?_;refine au (fun β=>(fu (.of I))) ba I ?_;dsimp only [Nat.zero_add,Nat.reduceAdd]
 with_reducible apply cj (B:=[]) (F:=fun _=>.q (bL (!eZ (dh r) a) 10)) (args:=fun _=>[.bool (!eZ (dh r) a),.q 10])
 case hB=>rfl
 case hr=>exact fun β=>a7 (.of I) ((.o I (.o I .nil))) inferInstance I
 case hi=>exact ba
 case hd=>rfl
 case hc=>exact fun β w' hb=>ef _ _ _
 dsimp only [Nat.reduceAdd];refine au (fun β=>(ag (.of I) (At.lit c7 I))) ba I ?_;dsimp only [Nat.zero_add,Nat.reduceAdd]
 with_reducible apply cj (B:=[]) (F:=fun _=>.bool (jm b)) (args:=fun _=>[.string b])
 case hB=>rfl
 case hr=>exact fun β=>a7 (.of I) ((.o I .nil)) inferInstance I
 case hi=>exact ba
 case hd=>rfl
 case hc=>exact fun β w' hb=>AY _ _
 dsimp only [Nat.reduceAdd];refine au (fun β=>(fu (.of I))) ba I ?_;dsimp only [Nat.zero_add,Nat.reduceAdd]
 with_reducible apply cj (B:=[]) (F:=fun _=>.q (bL (!jm b) 8)) (args:=fun _=>[.bool (!jm b),.q 8])
 case hB=>rfl
 case hr=>exact fun β=>a7 (.of I) ((.o I (.o I .nil))) inferInstance I
 case hi=>exact ba
 case hd=>rfl
 case hc=>exact fun β w' hb=>ef _ _ _
 dsimp only [Nat.reduceAdd];refine au (fun β=>(aQ (.of I))) ba I ?_;dsimp only [Nat.zero_add,Nat.reduceAdd]
 with_reducible apply cj (B:=[]) (F:=fun _=>.q (bL (eZ (dh r) b) 9)) (args:=fun _=>[.bool (eZ (dh r) b),.q 9])
 case hB=>rfl
 case hr=>exact fun β=>a7 (.of I) ((.o I (.o I .nil))) inferInstance I
 case hi=>exact ba
 case hd=>rfl
 case hc=>exact fun β w' hb=>ef _ _ _
 dsimp only [Nat.reduceAdd];refine iG (fun β=>(aD (.o I (.o I (.o I .nil))) I I I I)) (fun _ _ _=>rfl) I ?_;dsimp only [Nat.reduceAdd]
 with_reducible apply cj (B:=[9]) (F:=fun _=>.q (r7 r a b)) (args:=fun β=>[.slice (some ⟨eu (β 9),0,none⟩) 3 3])
 case hB=>kernel_rfl
 case hr=>exact fun β=>a7 (.of I) (.o I .nil) inferInstance I
 case hi=>exact ba
 case hd=>rfl
 case hc=>
  intro β w' hb;have m2:=hb.at 9 Zr (s:=⟨fun β=>.slice (some ⟨eu (β 9),0,none⟩) 3 3,fun β=>[bu (eu (β 9)) (.cells #[.q (bL (!eZ (dh r) a) 10),.q (bL (!jm b) 8),.q (bL (eZ (dh r) b) 9)] 33 (0,0))]⟩) (by kernel_rfl)
  dsimp only [Zb,Za] at m2;exact GF _ [bL (!eZ (dh r) a) 10,bL (!jm b) 8,bL (eZ (dh r) b) 9] w' (Mem.dy m2 (by exact .here) I I)
 dsimp only [Nat.reduceAdd];refine au (fun β=>(cX (.of I))) ba I ?_;refine eN fun β=>?_;dsimp only [dW,Za,Zb,List.append_eq,Nat.reduceAdd];generalize eu (β 9)=g9;clear β
 with_reducible refine cn (by kernel_rfl) ?_
 refine dS [bu b6 (.cells #[.q 0,.q 0,.z,.z,.z,.z] 41 (0,0)),JP b3 r s d t p,bu b4 (.cells #[.string a] 9 (0,0)),bu b5 (.cells #[.string b] 9 (0,0))] (by exact .cons c7 (.cons nR (.cons ek (.cons c7 .nil)))) ?_;by_cases he:r7 r a b=0
 rotate_left
 ·have hX:Ni r a b=Ro.nil:=if_pos (by rw [hE];exact he)
  (refine Jt<|Jr<|Jv I<|JD I<|Jn<|Jd I fun aA=>Jr<|ab (aU .nil ai) I<|Jv I<|ak (.of I) (.of I) .here I I (dO I I I I I I) (br I) ai<|Ja I<|Jn<|Ju ?_)
  rw [hX,hE];refine aJ 186 2 ?_;refine aJ 90 3 ?_;refine aJ 187 3 ?_;refine aJ 188 3 ?_
  with_reducible first|apply aO|apply aP
  case he=>exact kl I inferInstance I c7 ai (by rfl) (by rfl)
  case hR=>
   intro w' aB;exact aC (.z,.z,.z,.z) trivial (by exact .cons cI (.cons bE (.cons (.there .here) (.h1 .nil)))) aB I
 have hX:Ni r a b=r.wy a b:=if_neg (by rw [hE];exact not_not_intro he);rw [hX,hE,he]
 (refine Jt<|Jr<|Jv I<|JD I<|Jn<|Jc I fun aA=>Jk<|Jr<|ab (bC .nil (.o I (.o I .nil))) I<|Ja I<|Ji<|ab (bU (.there .here)) I ?_)
 refine JN bJ I (fun w1 aT=>vm (h.keeps aT.keeps) c6 (by omega)) ?_;rintro ⟨s1,d1,t1,p1⟩ _
 try dsimp only [id_eq,Zb,Za]
 unfold RA PB;refine dF (r:=r) (s:=s1) (d:=d1) (t:=t1) (p:=p1) (by unfold nV PB;exact .h4 .nil) fun k1 k2 k3 k4=>?_;refine aK (E:=186) (sz:=2) (v:=s1) (by exact .here) fun a0 c0 e=>?_;subst e;refine aK (E:=90) (sz:=3) (v:=d1) (by exact Take.there .here) fun a1 c1 e=>?_;subst e;refine aK (E:=187) (sz:=3) (v:=t1) bE fun a2 c2 e=>?_;subst e;refine aK (E:=188) (sz:=3) (v:=p1) cI fun a3 c3 e=>?_;subst e
 (refine Jz I I fun _ _=>ak (.of I) (.of I) .here I I (dO I I I I I I) (br I) ai<|Jn<|Jq<|Jr<|bD I I ae<|JL I .here I<|JI I<|Jv I<|Jn<|J0 ?_)
 rename_i xY Xg;refine aV (ι:=Nat) (fun k=>k<=r.sr.length) (fun k=>[(62,.q (k:Nat)),(61,.q (r.sr.length:Nat)),(16,.p xY),(15,.func (.func 188) #[] #[.p b4,.p b5]),(3,.p b3),(6,.p b6)]) (fun k=>[JP xY r (.slice a0 r.sr.length c0) (.slice a1 r.de.length c1) (.slice a2 r.ti.length c2) (.slice a3 r.po.length c3),row 186 2 (.slice a0 r.sr.length c0) r.sr.length (il (cg (iL a b) r.sr k)),row 90 3 (.slice a1 r.de.length c1) r.de.length (gm r.de),row 187 3 (.slice a2 r.ti.length c2) r.ti.length (iC r.ti),row 188 3 (.slice a3 r.po.length c3) r.po.length (eF r.po),JP b3 r s d t p,bu b4 (.cells #[.string a] 9 (0,0)),bu b5 (.cells #[.string b] 9 (0,0)),bu b6 (.cells #[.q 0,.q 0,.z,.z,.z,.z] 41 (0,0))]) (fun k=>r.sr.length-k) ?_ ?_
 ·apply aH 0 (show 0<=r.sr.length from Zi _)
  case hs1=>exact bT
  case ht=>
   exact .h5 (.cons (.there .here) (.cons (.there .here) (.cons (.there .here) (.h1 .nil))))
 intro k hk
 try dsimp only at hk ⊢
 by_cases aL:k<r.sr.length
 ·have mS:∀ i,(cg (iL a b) r.sr i).length=r.sr.length:=ka _ _;have hsz:∀ x:Sr,(Sr.cells x).length=2:=fun _=>rfl
  have rr:k<(cg (iL a b) r.sr k).length:=by rw [mS];exact aL
  have nI:∀ l:List Sr,(il l).length=l.length*2:=fun l=>vd l
  refine cm (E:=186) (sz:=2) (v:=(.slice a0 r.sr.length c0)) (by exact Take.there .here) (by omega) fun gd cap cur e yw sF ru Nx=>?_;cases e;have pO:=sF;unfold maxLen at pO;have fZ:(il (cg (iL a b) r.sr k)++cur)[k*2]? = some (.string r.sr[k].nm):=by
   have:=l6 hsz cur (cg (iL a b) r.sr k) (k:=k) (i:=0) rr (by decide);rw [gM _ aL] at this;exact this
  have p0:setCells (il (cg (iL a b) r.sr k)++cur) (k*2) [.string (ng a b r.sr[k].nm)]=il (cg (iL a b) r.sr (k+1))++cur:=by
   rw [<- jQ (iL a b) aL];exact kO hsz (cg (iL a b) r.sr k) cur (k:=k) (i:=0) rr (by decide) _ (iL a b r.sr[k]) (by rw [gM _ aL];rfl)
  generalize r.sr[k].nm=x at fZ p0
  (refine Jr<|JA I<|Jn<|Jq<|Jd I fun aA=>Jk<|Jq<|J0<|Jr<|Jv I<|Ja I<|Jn<|Jg<|Jv I<|bD I I ae<|JL I (.there .here) I<|Jv I<|ab (ao (.of I) (.of I) I (by omega) aA aW) I<|bD I I ae ?_)
  with_reducible apply eH (As:=[bu gd (.cells (il (cg (iL a b) r.sr k)++cur).toArray 186 (0,0)),bu b4 (.cells #[.string a] 9 (0,0)),bu b5 (.cells #[.string b] 9 (0,0))]) (ι:=Unit) (Φ:=fun _=>True) (val:=fun _=>.tuple #[]) (own:=fun _=>[bu gd (.cells (setCells (il (cg (iL a b) r.sr k)++cur) (k*2) [.string (ng a b x)]).toArray 186 (0,0)),bu b4 (.cells #[.string a] 9 (0,0)),bu b5 (.cells #[.string b] 9 (0,0))])
  case hr=>exact bJ
  case hd=>rfl
  case ht=>exact bj.cons (by exact .here) (bj.cons ek (bj.cons ek bj.nil))
  case hc=>exact fun w1 fp aT iB gi _ _=>wx fZ iB gi
  rintro ⟨⟩ _;dsimp only [Zb,Za];rw [p0];have oE:(il (cg (iL a b) r.sr (k+1))++cur).length=c0*2:=by rw [Zg,nI,mS] at ru ⊢;exact ru
  refine ct (n:=r.sr.length) (xs:=il (cg (iL a b) r.sr (k+1))) (g:=gd) (E:=186) (sz:=2) (by exact .here) yw sF oE (by rw [nI,mS]) ?_;refine Jx<|Jj<|Jt<|Jg<|JB I (by omega)<|Jv I<|Jn ?_;apply aG (k+1) (show k+1<=r.sr.length from aL) (show r.sr.length-(k+1)<r.sr.length-k by omega)
  case hs1=>exact bT
  case ht=>exact .cons cI (.h1 (.cons bE (.cons bE (.cons bE (.cons bE (.h3 .nil))))))
 obtain rfl:k=r.sr.length:=by omega
 rw [k7]
 (refine Jr<|JA I<|Jn<|Jq<|Jc I fun aA=>Jp<|Jl<|Jo<|Jt<|Jq<|Jr<|bD I I ae<|JL I .here I<|JI I<|Jv I<|Jn<|J0 ?_)
 refine aV (ι:=Nat) (fun k=>k<=r.de.length) (fun k=>[(76,.q (k:Nat)),(75,.q (r.de.length:Nat)),(16,.p xY),(15,.func (.func 188) #[] #[.p b4,.p b5]),(3,.p b3),(6,.p b6)]) (fun k=>[JP xY r (.slice a0 r.sr.length c0) (.slice a1 r.de.length c1) (.slice a2 r.ti.length c2) (.slice a3 r.po.length c3),row 186 2 (.slice a0 r.sr.length c0) r.sr.length (il (r.sr.map (iL a b))),row 90 3 (.slice a1 r.de.length c1) r.de.length (gm (cg (je a b) r.de k)),row 187 3 (.slice a2 r.ti.length c2) r.ti.length (iC r.ti),row 188 3 (.slice a3 r.po.length c3) r.po.length (eF r.po),JP b3 r s d t p,bu b4 (.cells #[.string a] 9 (0,0)),bu b5 (.cells #[.string b] 9 (0,0)),bu b6 (.cells #[.q 0,.q 0,.z,.z,.z,.z] 41 (0,0))]) (fun k=>r.de.length-k) ?_ ?_
 ·apply aH 0 (show 0<=r.de.length from Zi _)
  case hs1=>exact bT
  case ht=>
   exact .h1 (.h8 .nil)
 intro k hk
 try dsimp only at hk ⊢
 by_cases aL:k<r.de.length
 ·have mS:∀ i,(cg (je a b) r.de i).length=r.de.length:=ka _ _;have hsz:∀ x:De,(De.cells x).length=3:=fun _=>rfl
  have rr:k<(cg (je a b) r.de k).length:=by rw [mS];exact aL
  have nI:∀ l:List De,(gm l).length=l.length*3:=fun l=>vF l
  refine cm (E:=90) (sz:=3) (v:=(.slice a1 r.de.length c1)) bE (by omega) fun gd cap cur e yw sF ru Nx=>?_;cases e;have pO:=sF;unfold maxLen at pO;have fZ:(gm (cg (je a b) r.de k)++cur)[k*3]? = some (.string r.de[k].nm):=by
   have:=l6 hsz cur (cg (je a b) r.de k) (k:=k) (i:=0) rr (by decide);rw [gM _ aL] at this;exact this
  have p0:setCells (gm (cg (je a b) r.de k)++cur) (k*3) [.string (ng a b r.de[k].nm)]=gm (cg (je a b) r.de (k+1))++cur:=by
   rw [<- jQ (je a b) aL];exact kO hsz (cg (je a b) r.de k) cur (k:=k) (i:=0) rr (by decide) _ (je a b r.de[k]) (by rw [gM _ aL];rfl)
  generalize r.de[k].nm=x at fZ p0
  (refine Jr<|JA I<|Jn<|Jq<|Jd I fun aA=>Jk<|Jq<|J0<|Jr<|Jv I<|Ja I<|Jn<|Jg<|Jv I<|bD I I ae<|JL I (.there .here) I<|Jv I<|ab (ao (.of I) (.of I) I (by omega) aA aW) I<|bD I I ae ?_)
  with_reducible apply eH (As:=[bu gd (.cells (gm (cg (je a b) r.de k)++cur).toArray 90 (0,0)),bu b4 (.cells #[.string a] 9 (0,0)),bu b5 (.cells #[.string b] 9 (0,0))]) (ι:=Unit) (Φ:=fun _=>True) (val:=fun _=>.tuple #[]) (own:=fun _=>[bu gd (.cells (setCells (gm (cg (je a b) r.de k)++cur) (k*3) [.string (ng a b x)]).toArray 90 (0,0)),bu b4 (.cells #[.string a] 9 (0,0)),bu b5 (.cells #[.string b] 9 (0,0))])
  case hr=>exact bJ
  case hd=>rfl
  case ht=>exact bj.cons (by exact .here) (bj.cons ek (bj.cons ek bj.nil))
  case hc=>exact fun w1 fp aT iB gi _ _=>wx fZ iB gi
  rintro ⟨⟩ _;dsimp only [Zb,Za];rw [p0];have oE:(gm (cg (je a b) r.de (k+1))++cur).length=c1*3:=by rw [Zg,nI,mS] at ru ⊢;exact ru
  refine ct (n:=r.de.length) (xs:=gm (cg (je a b) r.de (k+1))) (g:=gd) (E:=90) (sz:=3) (by exact .here) yw sF oE (by rw [nI,mS]) ?_;refine Jx<|Jj<|Jt<|Jg<|JB I (by omega)<|Jv I<|Jn ?_;apply aG (k+1) (show k+1<=r.de.length from aL) (show r.de.length-(k+1)<r.de.length-k by omega)
  case hs1=>exact bT
  case ht=>exact .cons cI (.cons cI (.h1 (.cons bE (.cons bE (.cons bE (.h3 .nil))))))
 obtain rfl:k=r.de.length:=by omega
 rw [k7]
 (refine Jr<|JA I<|Jn<|Jq<|Jc I fun aA=>Jp<|Jl<|Jo<|Jt<|Jq<|Jr<|bD I I ae<|JL I .here I<|JI I<|Jv I<|Jn<|J0 ?_)
 refine aV (ι:=Nat) (fun k=>k<=r.ti.length) (fun k=>[(90,.q (k:Nat)),(89,.q (r.ti.length:Nat)),(16,.p xY),(15,.func (.func 188) #[] #[.p b4,.p b5]),(3,.p b3),(6,.p b6)]) (fun k=>[JP xY r (.slice a0 r.sr.length c0) (.slice a1 r.de.length c1) (.slice a2 r.ti.length c2) (.slice a3 r.po.length c3),row 186 2 (.slice a0 r.sr.length c0) r.sr.length (il (r.sr.map (iL a b))),row 90 3 (.slice a1 r.de.length c1) r.de.length (gm (r.de.map (je a b))),row 187 3 (.slice a2 r.ti.length c2) r.ti.length (iC (cg (jB a b) r.ti k)),row 188 3 (.slice a3 r.po.length c3) r.po.length (eF r.po),JP b3 r s d t p,bu b4 (.cells #[.string a] 9 (0,0)),bu b5 (.cells #[.string b] 9 (0,0)),bu b6 (.cells #[.q 0,.q 0,.z,.z,.z,.z] 41 (0,0))]) (fun k=>r.ti.length-k) ?_ ?_
 ·apply aH 0 (show 0<=r.ti.length from Zi _)
  case hs1=>exact bT
  case ht=>
   exact .h1 (.h8 .nil)
 intro k hk
 try dsimp only at hk ⊢
 by_cases aL:k<r.ti.length
 ·have mS:∀ i,(cg (jB a b) r.ti i).length=r.ti.length:=ka _ _;have hsz:∀ x:Ti,(Ti.cells x).length=3:=fun _=>rfl
  have rr:k<(cg (jB a b) r.ti k).length:=by rw [mS];exact aL
  have nI:∀ l:List Ti,(iC l).length=l.length*3:=fun l=>u6 l
  refine cm (E:=187) (sz:=3) (v:=(.slice a2 r.ti.length c2)) cI (by omega) fun gd cap cur e yw sF ru Nx=>?_;cases e;have pO:=sF;unfold maxLen at pO;have fZ:(iC (cg (jB a b) r.ti k)++cur)[k*3]? = some (.string r.ti[k].nm):=by
   have:=l6 hsz cur (cg (jB a b) r.ti k) (k:=k) (i:=0) rr (by decide);rw [gM _ aL] at this;exact this
  have p0:setCells (iC (cg (jB a b) r.ti k)++cur) (k*3) [.string (ng a b r.ti[k].nm)]=iC (cg (jB a b) r.ti (k+1))++cur:=by
   rw [<- jQ (jB a b) aL];exact kO hsz (cg (jB a b) r.ti k) cur (k:=k) (i:=0) rr (by decide) _ (jB a b r.ti[k]) (by rw [gM _ aL];rfl)
  generalize r.ti[k].nm=x at fZ p0
  (refine Jr<|JA I<|Jn<|Jq<|Jd I fun aA=>Jk<|Jq<|J0<|Jr<|Jv I<|Ja I<|Jn<|Jg<|Jv I<|bD I I ae<|JL I (.there .here) I<|Jv I<|ab (ao (.of I) (.of I) I (by omega) aA aW) I<|bD I I ae ?_)
  with_reducible apply eH (As:=[bu gd (.cells (iC (cg (jB a b) r.ti k)++cur).toArray 187 (0,0)),bu b4 (.cells #[.string a] 9 (0,0)),bu b5 (.cells #[.string b] 9 (0,0))]) (ι:=Unit) (Φ:=fun _=>True) (val:=fun _=>.tuple #[]) (own:=fun _=>[bu gd (.cells (setCells (iC (cg (jB a b) r.ti k)++cur) (k*3) [.string (ng a b x)]).toArray 187 (0,0)),bu b4 (.cells #[.string a] 9 (0,0)),bu b5 (.cells #[.string b] 9 (0,0))])
  case hr=>exact bJ
  case hd=>rfl
  case ht=>exact bj.cons (by exact .here) (bj.cons ek (bj.cons ek bj.nil))
  case hc=>exact fun w1 fp aT iB gi _ _=>wx fZ iB gi
  rintro ⟨⟩ _;dsimp only [Zb,Za];rw [p0];have oE:(iC (cg (jB a b) r.ti (k+1))++cur).length=c2*3:=by rw [Zg,nI,mS] at ru ⊢;exact ru
  refine ct (n:=r.ti.length) (xs:=iC (cg (jB a b) r.ti (k+1))) (g:=gd) (E:=187) (sz:=3) (by exact .here) yw sF oE (by rw [nI,mS]) ?_;refine Jx<|Jj<|Jt<|Jg<|JB I (by omega)<|Jv I<|Jn ?_;apply aG (k+1) (show k+1<=r.ti.length from aL) (show r.ti.length-(k+1)<r.ti.length-k by omega)
  case hs1=>exact bT
  case ht=>exact .cons cI (.cons cI (.cons cI (.h1 (.cons bE (.cons bE (.h3 .nil))))))
 obtain rfl:k=r.ti.length:=by omega
 rw [k7]
 (refine Jr<|JA I<|Jn<|Jq<|Jc I fun aA=>Jp<|Jl<|Jo<|Jt<|Jq<|Jr<|bD I I ae<|JL I .here I<|JI I<|Jv I<|Jn<|J0 ?_)
 refine aV (ι:=Nat) (fun k=>k<=r.po.length) (fun k=>[(104,.q (k:Nat)),(103,.q (r.po.length:Nat)),(16,.p xY),(15,.func (.func 188) #[] #[.p b4,.p b5]),(3,.p b3),(6,.p b6)]) (fun k=>[JP xY r (.slice a0 r.sr.length c0) (.slice a1 r.de.length c1) (.slice a2 r.ti.length c2) (.slice a3 r.po.length c3),row 186 2 (.slice a0 r.sr.length c0) r.sr.length (il (r.sr.map (iL a b))),row 90 3 (.slice a1 r.de.length c1) r.de.length (gm (r.de.map (je a b))),row 187 3 (.slice a2 r.ti.length c2) r.ti.length (iC (r.ti.map (jB a b))),row 188 3 (.slice a3 r.po.length c3) r.po.length (eF (cg (fI a b) r.po k)),JP b3 r s d t p,bu b4 (.cells #[.string a] 9 (0,0)),bu b5 (.cells #[.string b] 9 (0,0)),bu b6 (.cells #[.q 0,.q 0,.z,.z,.z,.z] 41 (0,0))]) (fun k=>r.po.length-k) ?_ ?_
 ·apply aH 0 (show 0<=r.po.length from Zi _)
  case hs1=>exact bT
  case ht=>
   exact .h1 (.h8 .nil)
 intro k hk
 try dsimp only at hk ⊢
 by_cases aL:k<r.po.length
 ·have mS:∀ i,(cg (fI a b) r.po i).length=r.po.length:=ka _ _;have hsz:∀ x:Po,(Po.cells x).length=3:=fun _=>rfl
  have rr:k<(cg (fI a b) r.po k).length:=by rw [mS];exact aL
  have nI:∀ l:List Po,(eF l).length=l.length*3:=fun l=>gA l
  refine cm (E:=188) (sz:=3) (v:=(.slice a3 r.po.length c3)) c7 (by omega) fun gd cap cur e yw sF ru Nx=>?_;cases e;have pO:=sF;unfold maxLen at pO;have fZ:(eF (cg (fI a b) r.po k)++cur)[k*3+1]? = some (.string r.po[k].ou):=by
   have:=l6 hsz cur (cg (fI a b) r.po k) (k:=k) (i:=1) rr (by decide);rw [gM _ aL] at this;exact this
  have p0:setCells (eF (cg (fI a b) r.po k)++cur) (k*3+1) [.string (ng a b r.po[k].ou)]=eF ((cg (fI a b) r.po k).set k ⟨r.po[k].lv,ng a b r.po[k].ou,r.po[k].ip⟩)++cur:=
   kO hsz (cg (fI a b) r.po k) cur (k:=k) (i:=1) rr (by decide) _ _ (by rw [gM _ aL];rfl)
  have Bd:k<((cg (fI a b) r.po k).set k ⟨r.po[k].lv,ng a b r.po[k].ou,r.po[k].ip⟩).length:=by rw [List.length_set];exact rr
  have EY:(eF ((cg (fI a b) r.po k).set k ⟨r.po[k].lv,ng a b r.po[k].ou,r.po[k].ip⟩)++cur)[k*3+2]? = some (.string r.po[k].ip):=by
   have:=l6 hsz cur ((cg (fI a b) r.po k).set k ⟨r.po[k].lv,ng a b r.po[k].ou,r.po[k].ip⟩) (k:=k) (i:=2) Bd (by decide);rw [List.getElem_set_self] at this;exact this
  have p2:setCells (eF ((cg (fI a b) r.po k).set k ⟨r.po[k].lv,ng a b r.po[k].ou,r.po[k].ip⟩)++cur) (k*3+2) [.string (ng a b r.po[k].ip)]=eF (cg (fI a b) r.po (k+1))++cur:=by
   have e9:cg (fI a b) r.po (k+1)=((cg (fI a b) r.po k).set k ⟨r.po[k].lv,ng a b r.po[k].ou,r.po[k].ip⟩).set k (fI a b r.po[k]):=by rw [List.set_set,jQ (fI a b) aL]
   rw [e9];exact kO hsz _ cur (k:=k) (i:=2) Bd (by decide) (.string (ng a b r.po[k].ip)) (fI a b r.po[k]) (by rw [List.getElem_set_self];rfl)
  generalize r.po[k].ou=x at fZ p0 Bd EY p2;generalize r.po[k].ip=y at fZ p0 Bd EY p2
  (refine Jr<|JA I<|Jn<|Jq<|Jd I fun aA=>Jk<|Jq<|J0<|Jr<|Jv I<|Ja I<|Ji<|Jv I<|bD I I ae<|JL I (.there .here) I<|Jv I<|ab (ao (.of I) (.of I) I (by omega) aA aW) I<|bD I I ae ?_)
  with_reducible apply eH (As:=[bu gd (.cells (eF (cg (fI a b) r.po k)++cur).toArray 188 (0,0)),bu b4 (.cells #[.string a] 9 (0,0)),bu b5 (.cells #[.string b] 9 (0,0))]) (ι:=Unit) (Φ:=fun _=>True) (val:=fun _=>.tuple #[]) (own:=fun _=>[bu gd (.cells (setCells (eF (cg (fI a b) r.po k)++cur) (k*3+1) [.string (ng a b x)]).toArray 188 (0,0)),bu b4 (.cells #[.string a] 9 (0,0)),bu b5 (.cells #[.string b] 9 (0,0))])
  case hr=>exact bJ
  case hd=>rfl
  case ht=>exact bj.cons (by exact .here) (bj.cons ek (bj.cons ek bj.nil))
  case hc=>exact fun w1 fp aT iB gi _ _=>wx fZ iB gi
  rintro ⟨⟩ _;dsimp only [Zb,Za];rw [p0]
  (refine Jn<|Jg<|Jv I<|bD I I ae<|JL I cI I<|Jv I<|ab (ao (.of I) (.of I) I (by omega) aA aW) I<|bD I I ae ?_)
  with_reducible apply eH (As:=[bu gd (.cells (eF ((cg (fI a b) r.po k).set k ⟨r.po[k].lv,ng a b x,y⟩)++cur).toArray 188 (0,0)),bu b4 (.cells #[.string a] 9 (0,0)),bu b5 (.cells #[.string b] 9 (0,0))]) (ι:=Unit) (Φ:=fun _=>True) (val:=fun _=>.tuple #[]) (own:=fun _=>[bu gd (.cells (setCells (eF ((cg (fI a b) r.po k).set k ⟨r.po[k].lv,ng a b x,y⟩)++cur) (k*3+2) [.string (ng a b y)]).toArray 188 (0,0)),bu b4 (.cells #[.string a] 9 (0,0)),bu b5 (.cells #[.string b] 9 (0,0))])
  case hr=>exact bJ
  case hd=>rfl
  case ht=>exact bj.cons (by exact .here) (bj.cons (by exact .here) (bj.cons (by exact .here) bj.nil))
  case hc=>exact fun w1 fp aT iB gi _ _=>wx EY iB gi
  rintro ⟨⟩ _;dsimp only [Zb,Za];rw [p2];have oE:(eF (cg (fI a b) r.po (k+1))++cur).length=c3*3:=by rw [Zg,nI,mS] at ru ⊢;exact ru
  refine ct (n:=r.po.length) (xs:=eF (cg (fI a b) r.po (k+1))) (g:=gd) (E:=188) (sz:=3) (by exact .here) yw sF oE (by rw [nI,mS]) ?_;refine Jx<|Jj<|Jt<|Jg<|JB I (by omega)<|Jv I<|Jn ?_;apply aG (k+1) (show k+1<=r.po.length from aL) (show r.po.length-(k+1)<r.po.length-k by omega)
  case hs1=>exact bT
  case ht=>exact .cons cI (.cons cI (.cons cI (.cons cI (.h1 (.cons bE (.h3 .nil))))))
 obtain rfl:k=r.po.length:=by omega
 rw [k7]
 (refine Jr<|JA I<|Jn<|Jq<|Jc I fun aA=>Jp<|Jl<|Jo<|Jt<|Jr<|ab (bU .here) I<|ak (.of I) (.of I) DR I I (dO I I I I I I) (br I) ai<|Ja I<|Jn<|Je ?_)
 have e1:(r.wy a b).sr.length=r.sr.length:=Zd _;have e2:(r.wy a b).de.length=r.de.length:=Zd _;have e3:(r.wy a b).ti.length=r.ti.length:=Zd _;have e4:(r.wy a b).po.length=r.po.length:=Zd _
 with_reducible first|apply aO|apply aP
 case he=>exact kl I inferInstance I .here ai (by rfl) (by rfl)
 case hR=>
  intro w' aB;exact aC ((.slice a0 r.sr.length c0),(.slice a1 r.de.length c1),(.slice a2 r.ti.length c2),(.slice a3 r.po.length c3)) trivial (show bj _ [row 186 2 (.slice a0 r.sr.length c0) (r.wy a b).sr.length (il (r.sr.map (iL a b))),row 90 3 (.slice a1 r.de.length c1) (r.wy a b).de.length (gm (r.de.map (je a b))),row 187 3 (.slice a2 r.ti.length c2) (r.wy a b).ti.length (iC (r.ti.map (jB a b))),row 188 3 (.slice a3 r.po.length c3) (r.wy a b).po.length (eF (r.po.map (fI a b)))] _ by rw [e1,e2,e3,e4];exact .cons bE (.cons bE (.cons bE (.cons bE .nil)))) aB I
end Go.Proofs.A1
namespace Go.Proofs
open Go.Shelf
def Tryz.C4:Go.Shelf.Ren:=⟨fun | 212=>269 | 263=>321 | 264=>322 | n=>n,fun | 46=>318 | 51=>381 | 146=>390 | 53=>383 | 148=>392 | n=>n,fun | n=>n⟩
theorem Tryz.Pc:Go.Proofs.Lays.n212 Tryz.prog Tryz.C4:={
 mixed:=by kernel_rfl
 f212:=Tryz.func269.trans (congrArg some (by kernel_rfl))
 f263:=Tryz.func321.trans (congrArg some (by kernel_rfl))
 f264:=Tryz.func322.trans (congrArg some (by kernel_rfl))
 t46:=Tryz.underlying318
 a46:=Tryz.isAgg318
 z46:=Tryz.sizeOf318
 v46:=Tryz.zeroValue318
 t51:=Tryz.underlying381
 a51:=Tryz.isAgg381
 z51:=Tryz.sizeOf381
 v51:=Tryz.zeroValue381
 t53:=Tryz.underlying383
 a53:=Tryz.isAgg383
 z53:=Tryz.sizeOf383
 v53:=Tryz.zeroValue383
 t146:=Tryz.underlying390
 a146:=Tryz.isAgg390
 z146:=Tryz.sizeOf390
 v146:=Tryz.zeroValue390
 t148:=Tryz.underlying392
 a148:=Tryz.isAgg392
 z148:=Tryz.sizeOf392
 v148:=Tryz.zeroValue392 }
open Go.RowKit Go.Lib in
theorem Tryz.bits_Mul (x y:Nat) (hx:x<18446744073709551616) (hy:y<18446744073709551616) (w:World) :
  Calls Tryz.prog 269 #[.int .u64 x,.int .u64 y] w fun e w'=>e=.returned (.tuple #[.int .u64 ((x*y / 18446744073709551616:Nat):Int),.int .u64 ((x*y % 18446744073709551616:Nat):Int)])/\w'=w:=Any.bits_Mul Tryz.Pc x y hx hy w
end Go.Proofs
namespace Go.Proofs.A1
open Go Go.SL
open Tryz
open Tryz renaming prog->T_
section
variable {P:Program} {r:Option Nat} {c:Cx} {D:List Nat} {sl:aN} {hs hs':List bd} {ops:Array Oper} {Q:Exit->Act->World->Prop} {d:Nat} {ty:TypeId} {pos:String} {af:Array Edge} {rest:List Oper}
theorem Ch {t t2 e:TypeId} {agg:Bool} {size:Nat} {x y:Operand} {V:Value} {g o n cap:Nat} {E:TypeId} {cs:List Value} {news:List (List Value)} [hu:iI P t (.slice e)] [hT:Ty P e agg size]
  (hx:Is sl x (.slice (some ⟨g,o,none⟩) n cap)) (hy:Is sl y V) (ht:Take hs (bu g (.cells cs.toArray E (0,0))) hs') (hsrc:∀ w,Mem c hs w->Rd w V size news) (h1:∀ r∈news,∀ u∈r,u.oneCell'=true) (hfit:o+n*size<=cs.length) (hd:Nat.blt d c.nt=true)
  (k:Tr c D ((d,.q (Nat.min news.length n:Nat))::sl) (bu g (.cells (setCells cs o (news.take n).flatten).toArray E (0,0))::hs') (WL P r ops Q rest)) :
  Tr c D sl hs (WL P r ops Q (⟨some d,.call ⟨.builtin .copy,#[x,y],#[t,t2]⟩,ty,pos,af,none⟩::rest)):=fun a w bb=>by
 have hR:=hsrc w bb.pE;obtain ⟨de,i,kz,hi,_,gK⟩:=Ty.parts (P:=P) (t:=e) (agg:=agg) (n:=size);have hlen:(news.take n).flatten.length=Nat.min news.length n*size:=by
  rw [fU (fun r hr=>hR.sz r (Zax hr)),Zs]
  show min n news.length*size=min news.length n*size;rw [Nat.min_comm]
 have hle:Nat.min news.length n<=n:=ZbC _ _;have hm:=bb.mem.take (ht.append _);have hg:w.heap[g]? = some (.cells cs.toArray E (0,0)):=hm.bu .here;obtain ⟨w',h3,h4,h5⟩:=iy (P:=P) (o:=o) (news.take n).flatten 0 cs w hg (fun u hu=>by
  obtain ⟨r,hr,Pv⟩:=Zbu.1 hu;exact h1 r (Zax hr) u Pv) (by
  rw [hlen];have:Nat.min news.length n*size<=n*size:=Z0 _ hle;omega)
 have LK:(Builtin.firstCells size (Nat.min news.length n) V).run P w=.ok (news.take n).flatten.toArray w:=by
  obtain ⟨aa,c8,b,o,hV,jS,ch,ha,hc⟩:=hR;subst hV;by_cases hne:news=[]
  ·subst hne;cases aa <;> simp [Builtin.firstCells,loadCells,loadCellsFrom]
  ·have:=ha hne;subst this;simp only [Builtin.firstCells];refine og hlen fun j u hu=>?_;refine kI (sz:=size) (xs:=news.take n) (fun i r hr=>?_) j u hu;rw [ZN] at hr;split at hr
   ·exact hc i r hr
   ·cases hr
 have LL:(Builtin.lenOf V).run P w=.ok news.length w:=by
  obtain ⟨aa,c8,b,o,hV,_⟩:=hR;subst hV
  rfl
 refine mJ I ⟨eh _ _ _ _ _,?_⟩;rw [Oper.semAt_eq _ _ _ (by simp)];have:(execOp a.eval ⟨some d,.call ⟨.builtin .copy,#[x,y],#[t,t2]⟩,ty,pos,af,none⟩).run P w=.ok (.value (.q (Nat.min news.length n:Nat))) w':=by
  simp [execOp,resolve,invoke,builtin,hx a bb.dw,hy a bb.dw,Builtin.copy_,aX hu.eq,LL,sizeOf,typeInfo,hi,gK,LK,h3,goInt]
 rw [this];have me:=Mem.store hm h4 h5;rw [Zas] at me;exact k _ _ ((bb.put (by simpa [Z8] using hd) _).heap me)
end
def Hi (n k:Nat) (x:ByteArray):List Value:=List.replicate k (.string x)++List.replicate (n-k) (.string ⟨#[]⟩)
variable {n:Nat} {x:ByteArray}
theorem AB {n k:Nat} (h:k<=n):(Hi n k x).length=n:=by
 unfold Hi;rw [Zg,Zae,Zae];omega
theorem CB {n k m:Nat} (h:k+m<=n):setCells (Hi n k x) k (List.replicate m (.string x))=Hi n (k+m) x:=by
 apply Zat;intro i;rw [hG _ _ _ _ (by rw [AB (by omega),Zae];exact h),Zae];unfold Hi;simp only [List.getElem?_append,Zae,List.getElem?_replicate]
 repeat' split
 all_goals (first | rfl | omega)
theorem Kx (n:Nat) (x:ByteArray):(List.replicate n (Value.string ⟨#[]⟩).cells.toList).flatten=Hi n 0 x:=by
 show (List.replicate n [Value.string ⟨#[]⟩]).flatten=[]++List.replicate (n-0) _;rw [Nat.sub_zero,Za]
 induction n with
 | zero=>rfl
 | succ n ih=>rw [List.replicate_succ,Zak,ih];rfl
theorem Oc (m:Nat) (x:ByteArray):(fN (List.replicate m x)).flatten=List.replicate m (.string x):=by
 induction m with
 | zero=>rfl
 | succ m ih =>
  show Value.string x::(fN (List.replicate m x)).flatten=_;rw [ih];rfl
theorem V9 (x y:Nat) (hx:x<18446744073709551616) (hy:y<18446744073709551616) (w:World):an T_ 269 [.int .u64 (x:Nat),.int .u64 (y:Nat)] w (.tuple #[.int .u64 ((x*y / 18446744073709551616:Nat):Int),.int .u64 ((x*y % 18446744073709551616:Nat):Int)]):=
 Calls.mono (bits_Mul x y hx hy w) fun e w' ⟨he,hw⟩=>⟨he,by rw [hw];exact .refl _ _⟩
theorem Th (hn:n<=3) (w:World):an T_ 269 [.int .u64 1,.int .u64 (n:Nat)] w (.tuple #[.int .u64 0,.int .u64 (n:Nat)]):=by
 have:=V9 1 n (by decide) (by omega) w;rw [Nat.one_mul,show n / 18446744073709551616=0 by omega,show n % 18446744073709551616=n by omega] at this;exact this
theorem VM {w:World} {b n k:Nat} {E:TypeId} (hk:k<=n) (hn:n<=3) (h:w.heap[b]? = some (.cells (Hi n k x).toArray E (0,0))):Rd w (.w b k n) 1 (fN (List.replicate k x)):=by
 have e:(fN (List.replicate k x)).length=k:=by rw [bG,Zae]
 refine ⟨some ⟨b,0,none⟩,n,b,0,by rw [e],by rw [e];exact hk,by unfold maxLen;omega,fun _=>rfl,fun i r hr=>?_⟩;have hi:i<k:=by have:=(Zl.1 hr).1;rwa [e] at this
 rw [fH (by rw [Zae];exact hi)] at hr;cases hr;refine ⟨I,fun j u hu=>?_⟩;cases j with
 | succ j=>cases hu
 | zero =>
  rw [cell_of_block h];rw [List.getElem?_toArray,ZF,Zan,Zas];unfold Hi;rw [Zx (by rw [Zae];exact hi),List.getElem?_replicate,if_pos hi];rw [<- hu];simp
set_option maxHeartbeats 1000000 in
theorem KC {v:Value} (h1:1<=n) (h3:n<=3) {w:World} (h:Rd w v 1 (fN [x])) :
  a8 T_ 185 [v,.q (n:Nat)] w [] (fun _:Value=>True) id (fun z=>[row 9 1 z n (aR (List.replicate n x))]):=by
 have h0:=h;obtain ⟨a,cp,b,o,rfl,dC,ch,ha,hc⟩:=h;unfold maxLen at ch;refine aS func185 I I ?_
 (refine Jr<|Ja I<|Jn<|Jq<|Jr<|Jv I<|JA I<|Jn<|Jc I fun aA=>Jk<|Jr<|Jv I<|JI I<|ab (AG (.of I)) I<|Jv I<|ab (AG (.of I)) I ?_)
 rw [show IntKind.u64.wrap ((fN [x]).length:Int)=1 from I,show IntKind.u64.wrap (n:Int)=(n:Nat) by rw [IntKind.wrap_u64];omega]
 (refine ah bn I (fun w' aB=>(Th h3 w'))<|Jv I<|JJ I I<|JJ I I<|Ja I<|Ja I<|Jn<|Jq<|Jr<|Jv I<|JE I<|Jv I<|jZ I I I I<|aM I I (fun hg bH=>(ni (.bW hg I) (.of I))) I<|ab (bV (.of I) I) I<|Jn<|Jc I fun aA=>Jk<|Jr<|Jv I<|ab (AG (.of I)) I ?_)
 rw [show IntKind.i64.wrap (n:Int)=(n:Nat) from QJ (by omega) (by omega)]
 skip
 refine bh (F0 (l:=n) (cp:=n) (z:=.string ⟨#[]⟩) (.of I) (.of I) (Zv _) (by show 16*n<=281474976710656;omega) I I (by omega)) I fun XY ais=>?_;have e0:=Kx n x;rw [e0];refine Ja I<|Ji<|Jv I<|Jv I ?_;refine Ch (cs:=Hi n 0 x) (news:=fN [x]) (.of I) (.of I) (by exact .here) (fun w' aB=>h0.keeps aB.keeps) (fun r hr u hu=>?_) (by rw [AB (Zi n)];omega) I ?_
 ·rw [ZD.1 hr] at hu;rw [ZD.1 hu];rfl
 rw [show ((fN [x]).take n).flatten=List.replicate 1 (Value.string x) by rw [Z9 h1];rfl,CB (show 0+1<=n from h1),ZF,show Nat.min (fN [x]).length n=1 from Zbf h1];refine Ja I<|Jn<|Jq<|J0 ?_;refine aV (ι:=Nat) (fun k=>1<=k/\k<=n) (fun k=>[(8,.q (k:Nat)),(7,.w XY n n),(4,.z)]) (fun k=>[bu XY (.cells (Hi n k x).toArray 9 (0,0))]) (fun k=>n-k) ?_ ?_
 ·apply aH 1 (show 1<=1/\1<=n from ⟨Zv _,h1⟩)
  case hs1=>exact bT
  case ht=>exact jv
 intro k hk
 try dsimp only at hk ⊢
 have Rp:=hk.1;have fg:=hk.2;by_cases aL:k<n
 ·refine Jq<|Jr<|Jv I<|Jv I<|JI I<|JA I<|Jn<|Jd I fun aA=>Jk<|J0 ?_
  with_reducible refine FJ 10 I ?_
  (refine dB 0 I jw jw jw (fun w ρ=>rfl) (fun w=>(aQ (.of I))) I<|dB 1 I jw jw jw (fun w ρ=>rfl) (fun w=>(aQ (.of I))) I<|dB 2 I jw jw jw (fun w ρ=>rfl) (fun w=>(aQ (.of I))) I<|dB 3 I jw jw jw (fun w ρ=>rfl) (fun w=>(od (.of I) (.of I) (by omega) (by omega))) I<|dB 4 I jw jw jw (fun w ρ=>rfl) (fun w=>(aQ (.of I))) I<|dB 5 I jw jw jw (fun w ρ=>rfl) (fun w=>(aQ (.of I))) I<|dB 6 I jw jw jw (fun w ρ=>rfl) (fun w=>(hY (.of I) (.of I) (by omega) (by omega))) I ?_)
  rw [tl 1 aL (Zv n),tp XY k n 1,Zan];refine bF (rs:=[7]) (by kernel_rfl) (by simp) (Zp.2 ⟨?_,fun _ h=>absurd h Zo⟩);refine bK I ?_;refine Ch (cs:=Hi n k x) (news:=fN (List.replicate k x)) (.of I) (.of I) (by exact .here) (fun w' aB=>VM fg h3 (aB.bu .here)) (fun r hr u hu=>?_) (by rw [AB fg];omega) I ?_
  ·unfold fN at hr;rw [Zw] at hr;obtain ⟨q,_,rfl⟩:=hr;rw [ZD.1 hu];rfl
  rw [show ((fN (List.replicate k x)).take (n-k)).flatten=List.replicate (Nat.min k (n-k)) (Value.string x) by unfold fN;rw [<- ZaN,List.take_replicate,Nat.min_comm];exact Oc _ x,CB (show k+Nat.min k (n-k)<=n from ZP (Nat.add_le_add_left (ZbC k (n-k)) k) (by omega)),show Nat.min (fN (List.replicate k x)).length (n-k)=Nat.min k (n-k) by rw [bG,Zae]];have aT:1<=Nat.min k (n-k):=Nat.le_min.2 ⟨Rp,by omega⟩;have me:Nat.min k (n-k)<=n-k:=ZbC _ _;generalize Nat.min k (n-k)=m at aT me;refine Jn ?_;refine dB 8 I jw jw jw (fun w ρ=>rfl) (fun w=>(Er (.of I) (.of I) (Re (by omega)))) I ?_;refine bF (rs:=[9]) (by kernel_rfl) (by simp) (Zp.2 ⟨?_,fun _ h=>absurd h Zo⟩);refine bK I ?_;refine Ja I<|Jn ?_
  with_reducible refine cn (by kernel_rfl) ?_
  refine Jj<|Jt ?_;apply aG (k+m) (show 1<=k+m/\k+m<=n from ⟨by omega,by omega⟩) (show n-(k+m)<n-k by omega)
  case hs1=>exact bT
  case ht=>exact jv
 obtain rfl:k=n:=by omega
 refine Jq<|Jr<|Jv I<|Jv I<|JI I<|JA I<|Jn<|Jc I fun aA=>Jp<|Jl<|Jo<|Jt<|Jr<|Jv I<|Ja I<|Jn<|Je ?_;have e9:Hi k k x=aR (List.replicate k x):=by
  unfold Hi aR;rw [Nat.sub_self,List.replicate_zero,ZK,List.map_replicate]
 refine bP (g:=XY) (E:=9) (ys:=aR (List.replicate k x)) k 1 (by exact .here) e9 (by unfold aR;rw [Zd,Zae,Zan]) (by rw [Nat.ble_eq];omega) ?_
 with_reducible first|apply aO|apply aP
 case he=>exact dN I I
 case hR=>
  intro w' aB;exact aC (.w XY k k) trivial (by exact .h1 .nil) aB I
end Go.Proofs.A1
namespace Go.Proofs.A1
open Go Go.SL
open Tryz
open Tryz renaming prog->T_
def yD (r:Ro) (o:ByteArray):Ro:=if aY [fm r,mF r o]≠0 then Ro.nil else (fX r [nK r o]).1
def uS (r:Ro) (o:ByteArray):Int:=if aY [fm r,mF r o]≠0 then aY [fm r,mF r o] else (fX r [nK r o]).2.2
set_option maxHeartbeats 1000000 in
theorem Im {r:Ro} {s d t p:Value} (o:ByteArray) {w:World} (h:RR w r s d t p) (c6:mX r) :
  a8 T_ 79 [.agg #[.q r.lv,.q r.ma,s,d,t,p],.string o] w [] (fun _:Value×Value×Value×Value=>True) (fun x=>.tuple #[RA (yD r o) x.1 x.2.1 x.2.2.1 x.2.2.2,.q (uS r o)]) (fun x=>nV (yD r o) x):=by
 obtain ⟨h1,h2,h3,h4⟩:=h.one;have fP:∀ w',aI [] w w'->an T_ 34 [.agg #[.int .i64 r.lv,.int .i64 r.ma,s,d,t,p]] w' (.int .i64 (fm r)):=fun w' hk=>ei (h.keeps hk) c6
 have kz:∀ w',aI [] w w'->an T_ 112 [.agg #[.q r.lv,.q r.ma,s,d,t,p],.string o] w' (.q (mF r o)):=fun w' hk=>eA o (h.keeps hk)
 unfold RA;refine aS func79 I I ?_;refine Jr<|Jy I I fun _ _=>Jz I I fun _ _=>Ja I<|Jn<|Jq<|Jq ?_;rename_i b2 sJ b4 sH
 with_reducible refine db 6 (by kernel_rfl) ?_
 (refine az (bU (.there .here)) I<|aZ bJ I (fun w' aB=>(fP w' (Mem.keeps aB)))<|az (bU (.there .here)) I<|az mw I<|aZ bn I (fun w' aB=>(kz w' (Mem.keeps aB)))<|eM (aD (.o I (.o I .nil)) I I I I) I I ?_)
 with_reducible refine dI I fun bq mV=>?_
 (refine ah bJ I (fun w' aB=>(dV (Mem.dy aB .here I I) (cr.cons (cr.cons cr.nil))))<|Ja I<|Ji<|Jv I<|JD I<|Jn<|gL I (fun aA=>?_) fun aA=>?_;refine Jr<|ab (aU .nil ai) I<|Jv I<|ak (.of I) (.of I) (.there .here) I I (dO I I I I I I) (br I) ai<|Ja I<|Jn<|Ju ?_;rotate_left;refine Jk<|Jq ?_;rotate_right)
 ·have e1:yD r o=Ro.nil:=if_pos aA;have e2:uS r o=aY [fm r,mF r o]:=if_pos aA;rw [e1,e2];refine aJ 186 2<|aJ 90 3<|aJ 187 3<|aJ 188 3 ?_
  with_reducible first|apply aO|apply aP
  case he=>exact kl I inferInstance I c7 ai (by rfl) (by rfl)
  case hR=>
   intro w' aB;exact aC (.z,.z,.z,.z) trivial (by exact .cons cI (.cons bE (.cons (.there .here) (.h1 .nil)))) aB I
 have e0:aY [fm r,mF r o]=0:=Zq.1 aA;have e1:yD r o=(fX r [nK r o]).1:=if_neg aA;have e2:uS r o=(fX r [nK r o]).2.2:=if_neg aA;have B0:fm r=0:=bX.1 e0 _ Zr;have Dm:o∈cu r:=by
  have:=(bO (by decide)).1 (bX.1 e0 (mF r o) (by simp));rwa [decide_eq_false_iff_not,cJ,Classical.not_not] at this
 have dP:=yn B0;have tb:=dP.lim;have hf:=j5 dP dP.val;rw [e1,e2];have htk:=BB (r:=r) (by omega) Dm;obtain ⟨n,hn⟩:∃ n:Nat,r.lv=(n:Nat):=⟨r.lv.toNat,by omega⟩;have iZ:nK r o=⟨o,List.replicate n dash⟩:=by unfold nK;rw [hn,ZE]
 have HK:∀ (w':World) (kv y:Value),aI [] w w'->Rd w' kv 2 [[.string o,y]]->Rd w' y 1 (fN (List.replicate n dash))->a8 T_ 165 [.agg #[.q r.lv,.q r.ma,s,d,t,p],kv] w' [] (fun _:Value×Value×Value×Value=>True) (fun x=>.tuple #[RA (fX r [nK r o]).1 x.1 x.2.1 x.2.2.1 x.2.2.2,.q (fX r [nK r o]).2.1,.q (fX r [nK r o]).2.2]) (fun x=>nV (fX r [nK r o]).1 x):=fun w' kv y hk a b=>by
  have:=Ao (l:=[⟨nK r o,y⟩]) (h.keeps hk) dP (by omega) (show Rd w' kv 2 (jP [⟨nK r o,y⟩]) by rw [iZ];exact a) (fun x hx=>by rw [ZD.1 hx];show Rd w' y 1 (fN (nK r o).so);rw [iZ];exact b) htk
  exact this
 generalize fX r [nK r o]=R at HK ⊢;obtain ⟨R,at_,e_⟩:=R;dsimp only at HK ⊢
 with_reducible refine kF 14 [11,12] (by kernel_rfl) (Zp.2 ⟨lG I (by kernel_rfl) (by kernel_rfl),Zp.2 ⟨lG I (by kernel_rfl) (by kernel_rfl),fun _ h=>absurd h Zo⟩⟩) ?_
 (refine au (fun β=>(bQ (.of I) bE ai (by rfl))) dH I<|au (fun β=>(aQ (.of I))) dH I ?_)
 refine iG (fun β=>(aD (.o I .nil) I I I I)) (fun _ _ _=>rfl) I ?_
 (refine au (fun β=>(ar (.of I) ae)) dH I<|au (fun β=>(ag (.of I) (At.lit bE I))) dH I ?_)
 dsimp only [Nat.zero_add,Nat.reduceAdd]
 with_reducible apply dZ (ι:=Option Addr×Nat) (Φ:=fun _=>True) (val:=fun x=>.slice x.1 n x.2) (own:=fun x=>[row 9 1 (.slice x.1 n x.2) n (aR (List.replicate n dash))]) (g:=uD) (B:=[2]) (args:=fun β=>[.slice (some ⟨eu (β 2),0,none⟩) 1 1,.q r.lv])
 case hg=>exact Uq
 case hB=>rfl
 case hr=>exact fun β=>a7 (.of I) (.o I (.o I .nil)) inferInstance I
 case hd=>rfl
 case hc=>
  intro β w' hb;rw [hn];exact (KC (x:=dash) (by omega) (by omega) (Mem.dy (cs:=[.string dash]) (hb.at 2 (by simp) I) .here I I)).slice
 dsimp only [id_eq,Nat.reduceAdd]
 with_reducible apply au
 case hr=>(intro β;exact aU (.o I (.o I .nil)) ai)
 case hi=>exact fun β β' h=>by simp only [h 5 (by kernel_rfl)]
 case hd=>rfl
 dsimp only [Nat.reduceAdd]
 with_reducible apply iG
 case hr=>(intro β;exact bz (.o I .nil) I I bI bI ai)
 case hi=>exact fun β β' h=>by simp only [h 5 (by decide) (by kernel_rfl)]
 case hd=>rfl
 dsimp only [Nat.reduceAdd]
 with_reducible apply dZ (ι:=Value×Value×Value×Value) (Φ:=fun _=>True) (val:=fun x=>.tuple #[.agg #[.q R.lv,.q R.ma,x.1,x.2.1,x.2.2.1,x.2.2.2],.q at_,.q e_]) (own:=fun x=>[J1 R x.1,J2 R x.2.1,J3 R x.2.2.1,J4 R x.2.2.2]) (g:=g4) (B:=[5,7]) (args:=fun β=>[.agg #[.q r.lv,.q r.ma,s,d,t,p],.slice (some ⟨eu (β 7),0,none⟩) 1 1])
 case hg=>exact mh
 case hB=>rfl
 case hr=>exact fun β=>a7 (.of I) (.o I (.o I .nil)) inferInstance I
 case hd=>rfl
 case hc=>
  intro β w' hb;exact HK w' _ (.slice (uD (β 5)).1 n (uD (β 5)).2) hb.mem.keeps (VS (hb.at 7 (by simp) I) .here) (ez (E:=9) (hb.at 5 (by simp) I) .here (Zae ..))
 dsimp only [Nat.reduceAdd]
 with_reducible apply au
 case hr=>(intro β;exact aQ (.of I))
 case hi=>exact fun β β' h=>by simp only [h 8 (by kernel_rfl)]
 case hd=>rfl
 dsimp only [Nat.reduceAdd]
 with_reducible apply au
 case hr=>(intro β;exact dG (.of I) I)
 case hi=>exact fun β β' h=>by simp only [h 8 (by kernel_rfl)]
 case hd=>rfl
 dsimp only [Nat.reduceAdd]
 (refine au (fun β=>(dG (.of I) I)) dH I<|au (fun β=>(dG (.of I) I)) dH I ?_)
 refine iG (fun β=>(kY I)) (fun _ _ _=>rfl) I ?_;refine eN fun β=>?_;dsimp only [dW,Za,Zb,List.append_eq,Nat.reduceAdd];generalize eu (β 13)=RZ;generalize g4 (β 8)=y;obtain ⟨s1,d1,t1,p1⟩:=y;dsimp only;refine dF (r:=R) (s:=s1) (d:=d1) (t:=t1) (p:=p1) (by unfold nV PB;exact .cons cI (.cons cI (.cons cI (.cons cI .nil)))) fun m1 m2 m3 m4=>?_;refine bF (rs:=[14]) (by kernel_rfl) (by simp) (Zp.2 ⟨?_,fun _ h=>absurd h Zo⟩);refine bK I ?_
 (refine ak (.of I) (.of I) tV I I (dO I I m1 m2 m3 m4) (br I) ai<|Jn ?_)
 refine bF (rs:=[15]) (by kernel_rfl) (by simp) (Zp.2 ⟨?_,fun _ h=>absurd h Zo⟩);refine bK I ?_;refine Ja I<|Jn ?_;refine bF (rs:=[16]) (by kernel_rfl) (by simp) (Zp.2 ⟨?_,fun _ h=>absurd h Zo⟩);refine bK I ?_;refine Ja I<|Jn ?_
 with_reducible refine cn (by kernel_rfl) ?_
 (refine Jt<|Jr<|ab (bU .here) I<|Jv I<|ak (.of I) (.of I) jl I I (dO I I m1 m2 m3 m4) (br I) ai<|Ja I<|Jn<|Je ?_)
 with_reducible first|apply aO|apply aP
 case he=>exact kl I inferInstance I .here ai (by rfl) (by rfl)
 case hR=>
  intro w' aB;exact aC (s1,d1,t1,p1) trivial (by exact .cons bE (.cons bE (.cons bE (.cons bE .nil)))) aB I
end Go.Proofs.A1
namespace Go.Proofs.A1
open Go Go.SL
open Tryz
open Tryz renaming prog->T_
variable {E:Int} {a b o:ByteArray} {q:Bool} {w:World}
theorem S0 {r Q:Ro} {s d t p:Value} (e1:qZ r o q=Q) (e2:ue r o=E) (h:RR w r s d t p) (hf:mX r):a8 T_ 78 [.agg #[.q r.lv,.q r.ma,s,d,t,p],.string o,.bool q] w [] (fun _:Value×Value×Value×Value=>True) (fun x=>.tuple #[.agg #[.q Q.lv,.q Q.ma,x.1,x.2.1,x.2.2.1,x.2.2.2],.q E]) (fun x=>nV Q x):=by
 subst e1 e2;exact uJ o q h hf
theorem XQ {r Q:Ro} {s d t p:Value} (e1:yD r o=Q) (e2:uS r o=E) (h:RR w r s d t p) (hf:mX r):a8 T_ 79 [.agg #[.q r.lv,.q r.ma,s,d,t,p],.string o] w [] (fun _:Value×Value×Value×Value=>True) (fun x=>.tuple #[.agg #[.q Q.lv,.q Q.ma,x.1,x.2.1,x.2.2.1,x.2.2.2],.q E]) (fun x=>nV Q x):=by
 subst e1 e2;exact Im o h hf
theorem VP {r Q:Ro} {s d t p:Value} (e1:Ni r a b=Q) (e2:U1 r a b=E) (h:RR w r s d t p) (hf:mX r):a8 T_ 80 [.agg #[.q r.lv,.q r.ma,s,d,t,p],.string a,.string b] w [] (fun _:Value×Value×Value×Value=>True) (fun x=>.tuple #[.agg #[.q Q.lv,.q Q.ma,x.1,x.2.1,x.2.2.1,x.2.2.2],.q E]) (fun x=>nV Q x):=by
 subst e1 e2;exact Ih a b h hf
theorem SO {r Q:Ro} {s d t p:Value} (e1:(if r7 r a b=0 then r.wy a b else Ro.nil)=Q) (e2:r7 r a b=E) (h:RR w r s d t p) (Bo:gU r):a8 T_ 81 [.agg #[.q r.lv,.q r.ma,s,d,t,p],.string a,.string b] w [] (fun _:Value×Value×Value×Value=>True) (fun x=>.tuple #[.agg #[.q Q.lv,.q Q.ma,x.1,x.2.1,x.2.2.1,x.2.2.2],.q E]) (fun x=>oZ Q x):=by
 subst e1 e2;exact Ho a b h Bo
theorem OM {r Q:Ro} (Dm:o∈cu r) {s d t p:Value} {w:World} (e:r.uL o q=Q) (h:RR w r s d t p) (Bo:gU r):a8 T_ 82 [.agg #[.q r.lv,.q r.ma,s,d,t,p],.string o,.bool q] w [] (fun _:Value×Value×Value×Value=>True) (fun x=>.agg #[.q Q.lv,.q Q.ma,x.1,x.2.1,x.2.2.1,x.2.2.2]) (fun x=>oZ Q x):=by
 subst e;exact CQ o q Dm h Bo
theorem xB {r:Ro} (h0:aY [fm r,mF r o]=0) {Q:Ro} {E:Int} (e1:yD r o=Q) (e2:uS r o=E):∃ IX,fX r [nK r o]=(Q,IX,E):=by
 unfold yD at e1;unfold uS at e2;rw [if_neg (not_not_intro h0)] at e1 e2;exact ⟨(fX r [nK r o]).2.1,by rw [<- e1,<- e2]⟩
theorem vH {r:Ro} {Q:Ro} (e1:yD r o=Q) (e2:uS r o=E) (hE:E≠0):Q=Ro.nil:=by
 by_cases h0:aY [fm r,mF r o]=0
 ·obtain ⟨IX,e⟩:=xB h0 e1 e2;unfold fX at e;split at e
  ·injection e with a b
   exact a.symm
  ·split at e
   ·injection e with a b
    exact a.symm
   ·injection e with a b
    injection b with b c
    exact absurd c.symm hE
 ·rw [<- e1];exact if_pos h0
theorem xr:gU Ro.nil:=⟨Zi _,Zi _,Zi _,Zi _⟩
theorem GK {r:Ro} (h:mF r o=0):o∈cu r:=by
 have:=(bO (by decide)).1 h;rwa [decide_eq_false_iff_not,cJ,Classical.not_not] at this
theorem Qn {r:Ro} {Q:Ro} (e1:yD r o=Q) (e2:uS r o=E) (hF:gU r):gU Q:=by
 by_cases hE:E=0
 ·have h0:aY [fm r,mF r o]=0:=Decidable.byContradiction fun c=>by
   have:uS r o=aY [fm r,mF r o]:=if_pos c;exact c (this.symm.trans (e2.trans hE))
  have fP:fm r=0:=bX.1 h0 _ Zr;have Dm:o∈cu r:=GK (bX.1 h0 _ (by simp));obtain ⟨IX,e⟩:=xB h0 e1 e2;obtain ⟨q,a1,a2,_⟩:=y8 (r:=r) (l:=[nK r o]) (by rw [e];exact hE);rw [e] at a2;have hq:=j5 (yn fP) (Cz fP (BB (by have:=(yn fP).lim;omega) Dm) a1).1;injection a2 with a2
  rw [a2];exact ⟨hF.1,hF.2.1,hF.2.2.1,(show q.length<=1000000 by omega)⟩
 ·rw [vH e1 e2 hE];exact xr
theorem KK {r:Ro} (hF:gU r):gU (qZ r o q):=by
 unfold qZ;split
 ·exact xr
 ·unfold Ro.uL;exact ⟨hF.1,by show (List.modify _ _ _).length<=_;rw [List.length_modify];exact hF.2.1,hF.2.2.1,hF.2.2.2⟩
theorem OG {r:Ro} (hF:gU r):gU (Ni r a b):=by
 unfold Ni;split
 ·exact xr
 ·unfold Ro.wy;refine ⟨?_,?_,?_,?_⟩
  ·show (List.map _ _).length<=_;rw [Zd];exact hF.1
  ·show (List.map _ _).length<=_;rw [Zd];exact hF.2.1
  ·show (List.map _ _).length<=_;rw [Zd];exact hF.2.2.1
  ·show (List.map _ _).length<=_;rw [Zd];exact hF.2.2.2
set_option maxRecDepth 20000 in
set_option maxHeartbeats 4000000 in
theorem Ht {r:Ro} {s d t p:Value} (h:RR w r s d t p) (na:ByteArray) (q:Bool) (a b:ByteArray):an T_ 11 [RA r s d t p,.agg #[.string na,.bool q,.string a,.string b]] w (.bool true):=by
 obtain ⟨h1,h2,h3,h4⟩:=h.one;have HJ:∀ {w'},aI [] w w'->an T_ 18 [.agg #[.int .i64 r.lv,.int .i64 r.ma,s,d,t,p]] w' (.bool (Cv r)):=fun hk=>Om (h.keeps hk)
 have Py:∀ {w' v},Rd w' v 1 (fN [na,a,b])->an T_ 69 [v] w' (.bool (Em [na,a,b])):=fun hv=>Cs hv
 have uP:∀ {w'},aI [] w w'->an T_ 26 [.agg #[.q r.lv,.q r.ma,s,d,t,p],.string na] w' (.q (mF r na)):=fun hk=>Fc na (h.keeps hk)
 unfold RA;cases U9:Cv r with
 | false =>
  rw [U9] at HJ;refine aj func11 I I ?_
  (refine Jr<|Jy I I fun _ _=>Jy I I fun _ _=>Ja I<|Jn<|Jq<|Jr<|ah nq I (fun w' aB=>(sS w'))<|JH I<|Jv I<|aM I I (fun hg bH=>(bQ (.of I) (.there .here) ai (by rfl))) I<|l5 I I (fun hg=>(a7 (.of I) (.cons (.bW hg I) .nil) inferInstance gF)) I (fun hg w' aB=>(HJ (Mem.keeps aB)))<|aM I I (fun hg bH=>(fu (.bW bH I))) I<|ab (bV (.of I) I) I<|Jv I<|aM I I (fun hg bH=>(ar (.of I) ae)) I<|aM I I (fun hg bH=>(ag (.bW hg I) (At.lit .here I))) I<|aM I I (fun hg bH=>(ar (.of I) ae)) I<|aM I I (fun hg bH=>(ag (.bW hg I) (At.lit .here I))) I<|aM I I (fun hg bH=>(ar (.of I) ae)) I<|aM I I (fun hg bH=>(ag (.bW hg I) (At.lit .here I))) I<|eG I I I I<|eG I I I I<|aM I I (fun hg bH=>(fu (.bW hg I))) I<|ab (bV (.of I) I) I<|Jn<|c5 (.of I)<|Jr<|ah nq I (fun w' aB=>(sS w'))<|Ja I<|Jn<|Ju<|JT ?_)
  rfl
 | true=>
 cases hwb:Em [na,a,b] with
 | false =>
  rw [U9] at HJ;rw [hwb] at Py;refine aj func11 I I ?_
  (refine Jr<|Jy I I fun _ _=>Jy I I fun _ _=>Ja I<|Jn<|Jq<|Jr<|ah nq I (fun w' aB=>(sS w'))<|JH I<|Jv I<|JK I I<|ab (bU (.there .here)) I<|JK I I<|ah bJ I (fun w' aB=>(HJ (Mem.keeps aB)))<|JK I I<|JH I<|ab (fQ (.of I) (.of I) (.of I) I) I<|Jv I<|JK I I<|bD I I ae<|JK I I<|JL I .here I<|JK I I<|bD I I ae<|JK I I<|JL I .here I<|JK I I<|bD I I ae<|JK I I<|JL I .here I<|JK I I<|bh (aD (.o I (.o I (.o I .nil))) I I I I) I fun _ _=>JK I I<|ah bJ I (fun w' aB=>(Py (Mem.dy aB .here I I)))<|JK I I<|JH I<|ab (fQ (.of I) (.of I) (.of I) I) I<|Jn<|c5 (.of I)<|Jr<|ah nq I (fun w' aB=>(sS w'))<|Ja I<|Jn<|Ju<|JT ?_)
  rfl
 | true=>
 rw [U9] at HJ;rw [hwb] at Py;have hA:yh r=true:=by
  unfold Cv at U9;exact (Zn _ _ ▸ U9).1
 have hF:=Ko hA;have Bo:=Cw hA;have T8:∀ {w'},aI [] w w'->an T_ 25 [.agg #[.q r.lv,.q r.ma,s,d,t,p]] w' (.q (fm r)):=fun hk=>yE (h.keeps hk) Bo
 clear U9 hwb hA;obtain ⟨Q1,Xn⟩:∃ Q,qZ r na q=Q:=⟨_,rfl⟩;obtain ⟨E1,Vr⟩:∃ E,ue r na=E:=⟨_,rfl⟩;obtain ⟨Q2,Vm⟩:∃ Q,yD r na=Q:=⟨_,rfl⟩;obtain ⟨E2,Nz⟩:∃ E,uS r na=E:=⟨_,rfl⟩;obtain ⟨Q3,Xm⟩:∃ Q,Ni r a b=Q:=⟨_,rfl⟩;obtain ⟨E3,Vq⟩:∃ E,U1 r a b=E:=⟨_,rfl⟩;have Uo:gU Q1:=Xn ▸ KK Bo;have Un:gU Q2:=Qn Vm Nz Bo;have Um:gU Q3:=Xm ▸ OG Bo;refine aj func11 I I ?_
 (refine Jr<|Jy I I fun _ _=>Jy I I fun _ _=>Ja I<|Jn<|Jq<|Jr<|ah nq I (fun w' aB=>(sS w'))<|JH I<|Jv I<|JK I I<|ab (bU (.there .here)) I<|JK I I<|ah bJ I (fun w' aB=>(HJ (Mem.keeps aB)))<|JK I I<|JH I<|ab (fQ (.of I) (.of I) (.of I) I) I<|Jv I<|JK I I<|bD I I ae<|JK I I<|JL I .here I<|JK I I<|bD I I ae<|JK I I<|JL I .here I<|JK I I<|bD I I ae<|JK I I<|JL I .here I<|JK I I<|bh (aD (.o I (.o I (.o I .nil))) I I I I) I fun _ _=>JK I I<|ah bJ I (fun w' aB=>(Py (Mem.dy aB .here I I)))<|JK I I<|JH I<|ab (fQ (.of I) (.of I) (.of I) I) I<|Jn<|cd (.of I)<|Jk<|Jq ?_)
 rename_i b2 sJ b3 rz bl PS;refine dS [JQ b2 r s d t p,bu b3 (.cells #[.string na,.bool q,.string a,.string b] 125 (0,0))] (by exact .cons bE (.cons (.there .here) .nil)) ?_
 with_reducible refine kF 11 [9] (by kernel_rfl) (Zp.2 ⟨lG I (by kernel_rfl) (by kernel_rfl),fun _ h=>absurd h Zo⟩) ?_
 refine au (fun β=>(bQ (.of I) .here ai (by rfl))) ba I ?_;dsimp only [Nat.zero_add,Nat.reduceAdd]
 with_reducible apply dZ (ι:=Value×Value×Value×Value) (Φ:=fun _=>True) (val:=fun x=>.agg #[.q r.lv,.q r.ma,x.1,x.2.1,x.2.2.1,x.2.2.2]) (own:=fun x=>nV r x) (g:=g4) (B:=[]) (args:=fun β=>[.agg #[.q r.lv,.q r.ma,s,d,t,p]])
 case hg=>exact mh
 case hB=>first | rfl | kernel_rfl
 case hr=>exact fun β=>a7 (.of I) (.o I .nil) inferInstance I
 case hd=>rfl
 case hc=>
  intro β w' hb;exact lz (h.keeps hb.mem.keeps) Bo
 dsimp only [Nat.reduceAdd]
 (refine au (fun β=>(ar (.of I) ae)) ba I<|au (fun β=>(ag (.of I) (At.lit (.there .here) I))) ba I<|au (fun β=>(ar (.of I) ae)) ba I<|au (fun β=>(ag (.of I) (At.lit (.there .here) I))) ba I ?_)
 dsimp only [Nat.zero_add,Nat.reduceAdd]
 with_reducible apply dZ (ι:=Value×Value×Value×Value) (Φ:=fun _=>True) (val:=fun x=>.tuple #[.agg #[.q Q1.lv,.q Q1.ma,x.1,x.2.1,x.2.2.1,x.2.2.2],.q E1]) (own:=fun x=>nV Q1 x) (g:=g4) (B:=[1]) (args:=fun β=>[.agg #[.q r.lv,.q r.ma,(g4 (β 1)).1,(g4 (β 1)).2.1,(g4 (β 1)).2.2.1,(g4 (β 1)).2.2.2],.string na,.bool q])
 case hg=>exact mh
 case hB=>kernel_rfl
 case hr=>exact fun β=>a7 (.of I) ((.o I (.o I (.o I .nil)))) inferInstance I
 case hd=>rfl
 case hc=>
  intro β w' hb;have m1:=hb.at 1 Zr I;dsimp only at m1;have m4:=Kw m1 (bo _ _);exact S0 Xn Vr m4 hF
 dsimp only [Nat.reduceAdd]
 with_reducible apply au (F:=fun β=>.tuple #[.agg #[.q Q1.lv,.q Q1.ma,(g4 (β 6)).1,(g4 (β 6)).2.1,(g4 (β 6)).2.2.1,(g4 (β 6)).2.2.2],.q E1])
 case hr=>(intro β;exact aQ (.of I))
 case hi=>exact fun β β' h=>by simp only [h 6 (by kernel_rfl)]
 case hd=>rfl
 dsimp only [Nat.reduceAdd]
 with_reducible apply au (F:=fun β=>.agg #[.q Q1.lv,.q Q1.ma,(g4 (β 6)).1,(g4 (β 6)).2.1,(g4 (β 6)).2.2.1,(g4 (β 6)).2.2.2])
 case hr=>(intro β;exact dG (.of I) I)
 case hi=>exact fun β β' h=>by simp only [h 6 (by kernel_rfl)]
 case hd=>rfl
 dsimp only [Nat.reduceAdd]
 with_reducible apply au (F:=fun β=>.q E1)
 case hr=>(intro β;exact dG (.of I) I)
 case hi=>exact ba
 case hd=>rfl
 dsimp only [Nat.reduceAdd];refine iG (fun β=>(kY I)) (fun _ _ _=>rfl) I ?_;refine eN fun β=>?_;unfold nV;dsimp only [dW,Za,Zb,List.append_eq,Nat.reduceAdd];generalize eu (β 10)=b5;generalize g4 (β 1)=yo;obtain ⟨s1,d1,t1,p1⟩:=g4 (β 6);clear β;dsimp only;refine dF (r:=Q1) (s:=s1) (d:=d1) (t:=t1) (p:=p1) (by unfold nV;dsimp only;exact .cons c7 (.cons c7 (.cons c7 (.cons c7 .nil)))) fun ma1 mb1 mc1 md1=>?_;refine bF (rs:=[11]) (by kernel_rfl) (by simp) (Zp.2 ⟨?_,fun _ h=>absurd h Zo⟩);refine bK I ?_
 (refine ak (.of I) (.of I) DR I I (dO I I ma1 mb1 mc1 md1) (br I) ai<|Jn ?_)
 refine bF (rs:=[12]) (by kernel_rfl) (by simp) (Zp.2 ⟨?_,fun _ h=>absurd h Zo⟩);refine bK I ?_;refine Ja I<|Jn ?_
 with_reducible refine cn (by kernel_rfl) ?_
 refine dS [bu b5 (.cells #[.q (Q1).lv,.q (Q1).ma,s1,d1,t1,p1] 41 (0,0)),J1 (Q1) s1,J2 (Q1) d1,J3 (Q1) t1,J4 (Q1) p1,JQ b2 r s d t p,bu b3 (.cells #[.string na,.bool q,.string a,.string b] 125 (0,0))] (by exact .h5 (.cons c7 (.cons c7 .nil))) ?_;refine Jt<|Jq ?_
 with_reducible refine kF 9 [7] (by kernel_rfl) (Zp.2 ⟨lG I (by kernel_rfl) (by kernel_rfl),fun _ h=>absurd h Zo⟩) ?_
 refine au (fun β=>(bQ (.of I) ek ai (by rfl))) ba I ?_;dsimp only [Nat.zero_add,Nat.reduceAdd]
 with_reducible apply dZ (ι:=Value×Value×Value×Value) (Φ:=fun _=>True) (val:=fun x=>.agg #[.q r.lv,.q r.ma,x.1,x.2.1,x.2.2.1,x.2.2.2]) (own:=fun x=>nV r x) (g:=g4) (B:=[]) (args:=fun β=>[.agg #[.q r.lv,.q r.ma,s,d,t,p]])
 case hg=>exact mh
 case hB=>first | rfl | kernel_rfl
 case hr=>exact fun β=>a7 (.of I) (.o I .nil) inferInstance I
 case hd=>rfl
 case hc=>
  intro β w' hb;exact lz (h.keeps hb.mem.keeps) Bo
 dsimp only [Nat.reduceAdd]
 (refine au (fun β=>(ar (.of I) ae)) ba I<|au (fun β=>(ag (.of I) (At.lit nR I))) ba I ?_)
 dsimp only [Nat.zero_add,Nat.reduceAdd]
 with_reducible apply dZ (ι:=Value×Value×Value×Value) (Φ:=fun _=>True) (val:=fun x=>.tuple #[.agg #[.q Q2.lv,.q Q2.ma,x.1,x.2.1,x.2.2.1,x.2.2.2],.q E2]) (own:=fun x=>nV Q2 x) (g:=g4) (B:=[1]) (args:=fun β=>[.agg #[.q r.lv,.q r.ma,(g4 (β 1)).1,(g4 (β 1)).2.1,(g4 (β 1)).2.2.1,(g4 (β 1)).2.2.2],.string na])
 case hg=>exact mh
 case hB=>kernel_rfl
 case hr=>exact fun β=>a7 (.of I) ((.o I (.o I .nil))) inferInstance I
 case hd=>rfl
 case hc=>
  intro β w' hb;have m1:=hb.at 1 Zr I;dsimp only at m1;have m4:=Kw m1 (bo _ _);exact XQ Vm Nz m4 hF
 dsimp only [Nat.reduceAdd]
 with_reducible apply au (F:=fun β=>.tuple #[.agg #[.q Q2.lv,.q Q2.ma,(g4 (β 4)).1,(g4 (β 4)).2.1,(g4 (β 4)).2.2.1,(g4 (β 4)).2.2.2],.q E2])
 case hr=>(intro β;exact aQ (.of I))
 case hi=>exact fun β β' h=>by simp only [h 4 (by kernel_rfl)]
 case hd=>rfl
 dsimp only [Nat.reduceAdd]
 with_reducible apply au (F:=fun β=>.agg #[.q Q2.lv,.q Q2.ma,(g4 (β 4)).1,(g4 (β 4)).2.1,(g4 (β 4)).2.2.1,(g4 (β 4)).2.2.2])
 case hr=>(intro β;exact dG (.of I) I)
 case hi=>exact fun β β' h=>by simp only [h 4 (by kernel_rfl)]
 case hd=>rfl
 dsimp only [Nat.reduceAdd]
 with_reducible apply au (F:=fun β=>.q E2)
 case hr=>(intro β;exact dG (.of I) I)
 case hi=>exact ba
 case hd=>rfl
 dsimp only [Nat.reduceAdd];refine iG (fun β=>(kY I)) (fun _ _ _=>rfl) I ?_;refine eN fun β=>?_;unfold nV;dsimp only [dW,Za,Zb,List.append_eq,Nat.reduceAdd];generalize eu (β 8)=b7;generalize g4 (β 1)=yo;obtain ⟨s2,d2,t2,p2⟩:=g4 (β 4);clear β;dsimp only;refine dF (r:=Q2) (s:=s2) (d:=d2) (t:=t2) (p:=p2) (by unfold nV;dsimp only;exact .cons c7 (.cons c7 (.cons c7 (.cons c7 .nil)))) fun ma2 mb2 mc2 md2=>?_;refine bF (rs:=[9]) (by kernel_rfl) (by simp) (Zp.2 ⟨?_,fun _ h=>absurd h Zo⟩);refine bK I ?_
 (refine ak (.of I) (.of I) DR I I (dO I I ma2 mb2 mc2 md2) (br I) ai<|Jn ?_)
 refine bF (rs:=[10]) (by kernel_rfl) (by simp) (Zp.2 ⟨?_,fun _ h=>absurd h Zo⟩);refine bK I ?_;refine Ja I<|Jn ?_
 with_reducible refine cn (by kernel_rfl) ?_
 refine dS [bu b7 (.cells #[.q (Q2).lv,.q (Q2).ma,s2,d2,t2,p2] 41 (0,0)),J1 (Q2) s2,J2 (Q2) d2,J3 (Q2) t2,J4 (Q2) p2,bu b5 (.cells #[.q (Q1).lv,.q (Q1).ma,s1,d1,t1,p1] 41 (0,0)),J1 (Q1) s1,J2 (Q1) d1,J3 (Q1) t1,J4 (Q1) p1,JQ b2 r s d t p,bu b3 (.cells #[.string na,.bool q,.string a,.string b] 125 (0,0))] (by exact .h5 (.cons c7 (.cons c7 (.cons c7 (.cons c7 (.cons c7 (.cons c7 (.cons c7 .nil)))))))) ?_;refine Jt<|Jq ?_
 with_reducible refine kF 11 [9] (by kernel_rfl) (Zp.2 ⟨lG I (by kernel_rfl) (by kernel_rfl),fun _ h=>absurd h Zo⟩) ?_
 refine au (fun β=>(bQ (.of I) lB ai (by rfl))) ba I ?_;dsimp only [Nat.zero_add,Nat.reduceAdd]
 with_reducible apply dZ (ι:=Value×Value×Value×Value) (Φ:=fun _=>True) (val:=fun x=>.agg #[.q r.lv,.q r.ma,x.1,x.2.1,x.2.2.1,x.2.2.2]) (own:=fun x=>nV r x) (g:=g4) (B:=[]) (args:=fun β=>[.agg #[.q r.lv,.q r.ma,s,d,t,p]])
 case hg=>exact mh
 case hB=>first | rfl | kernel_rfl
 case hr=>exact fun β=>a7 (.of I) (.o I .nil) inferInstance I
 case hd=>rfl
 case hc=>
  intro β w' hb;exact lz (h.keeps hb.mem.keeps) Bo
 dsimp only [Nat.reduceAdd]
 (refine au (fun β=>(ar (.of I) ae)) ba I<|au (fun β=>(ag (.of I) (At.lit tW I))) ba I<|au (fun β=>(ar (.of I) ae)) ba I<|au (fun β=>(ag (.of I) (At.lit tW I))) ba I ?_)
 dsimp only [Nat.zero_add,Nat.reduceAdd]
 with_reducible apply dZ (ι:=Value×Value×Value×Value) (Φ:=fun _=>True) (val:=fun x=>.tuple #[.agg #[.q Q3.lv,.q Q3.ma,x.1,x.2.1,x.2.2.1,x.2.2.2],.q E3]) (own:=fun x=>nV Q3 x) (g:=g4) (B:=[1]) (args:=fun β=>[.agg #[.q r.lv,.q r.ma,(g4 (β 1)).1,(g4 (β 1)).2.1,(g4 (β 1)).2.2.1,(g4 (β 1)).2.2.2],.string a,.string b])
 case hg=>exact mh
 case hB=>kernel_rfl
 case hr=>exact fun β=>a7 (.of I) ((.o I (.o I (.o I .nil)))) inferInstance I
 case hd=>rfl
 case hc=>
  intro β w' hb;have m1:=hb.at 1 Zr I;dsimp only at m1;have m4:=Kw m1 (bo _ _);exact VP Xm Vq m4 hF
 dsimp only [Nat.reduceAdd]
 with_reducible apply au (F:=fun β=>.tuple #[.agg #[.q Q3.lv,.q Q3.ma,(g4 (β 6)).1,(g4 (β 6)).2.1,(g4 (β 6)).2.2.1,(g4 (β 6)).2.2.2],.q E3])
 case hr=>(intro β;exact aQ (.of I))
 case hi=>exact fun β β' h=>by simp only [h 6 (by kernel_rfl)]
 case hd=>rfl
 dsimp only [Nat.reduceAdd]
 with_reducible apply au (F:=fun β=>.agg #[.q Q3.lv,.q Q3.ma,(g4 (β 6)).1,(g4 (β 6)).2.1,(g4 (β 6)).2.2.1,(g4 (β 6)).2.2.2])
 case hr=>(intro β;exact dG (.of I) I)
 case hi=>exact fun β β' h=>by simp only [h 6 (by kernel_rfl)]
 case hd=>rfl
 dsimp only [Nat.reduceAdd]
 with_reducible apply au (F:=fun β=>.q E3)
 case hr=>(intro β;exact dG (.of I) I)
 case hi=>exact ba
 case hd=>rfl
 dsimp only [Nat.reduceAdd];refine iG (fun β=>(kY I)) (fun _ _ _=>rfl) I ?_;refine eN fun β=>?_;unfold nV;dsimp only [dW,Za,Zb,List.append_eq,Nat.reduceAdd];generalize eu (β 10)=b9;generalize g4 (β 1)=yo;obtain ⟨s3,d3,t3,p3⟩:=g4 (β 6);clear β;dsimp only;refine dF (r:=Q3) (s:=s3) (d:=d3) (t:=t3) (p:=p3) (by unfold nV;dsimp only;exact .cons c7 (.cons c7 (.cons c7 (.cons c7 .nil)))) fun ma3 mb3 mc3 md3=>?_;refine bF (rs:=[11]) (by kernel_rfl) (by simp) (Zp.2 ⟨?_,fun _ h=>absurd h Zo⟩);refine bK I ?_
 (refine ak (.of I) (.of I) DR I I (dO I I ma3 mb3 mc3 md3) (br I) ai<|Jn ?_)
 refine bF (rs:=[12]) (by kernel_rfl) (by simp) (Zp.2 ⟨?_,fun _ h=>absurd h Zo⟩);refine bK I ?_;refine Ja I<|Jn ?_
 with_reducible refine cn (by kernel_rfl) ?_
 refine dS [bu b9 (.cells #[.q (Q3).lv,.q (Q3).ma,s3,d3,t3,p3] 41 (0,0)),J1 (Q3) s3,J2 (Q3) d3,J3 (Q3) t3,J4 (Q3) p3,bu b7 (.cells #[.q (Q2).lv,.q (Q2).ma,s2,d2,t2,p2] 41 (0,0)),J1 (Q2) s2,J2 (Q2) d2,J3 (Q2) t2,J4 (Q2) p2,bu b5 (.cells #[.q (Q1).lv,.q (Q1).ma,s1,d1,t1,p1] 41 (0,0)),J1 (Q1) s1,J2 (Q1) d1,J3 (Q1) t1,J4 (Q1) p1,JQ b2 r s d t p,bu b3 (.cells #[.string na,.bool q,.string a,.string b] 125 (0,0))] (by exact .h5 (.cons c7 (.cons c7 (.cons c7 (.cons c7 (.cons c7 (.cons c7 (.cons c7 (.cons c7 (.cons c7 (.cons c7 (.cons c7 (.cons c7 .nil))))))))))))) ?_;refine Jt<|Jr<|ab (bU iQ) I ?_;by_cases fP:fm r=0
 rotate_left
 ·have EW:aY [fm r,mF r na]=fm r:=by unfold aY;rw [if_pos fP]
  have k1:E1=fm r:=by rw [<- Vr];exact EW
  have k2:E2=fm r:=by rw [<- Nz];unfold uS;rw [EW,if_pos fP]
  have k3:E3=fm r:=by rw [<- Vq];exact if_pos fP
  have n1:Q1=Ro.nil:=by rw [<- Xn];exact if_pos (by rw [Vr,k1];exact fP)
  have n2:Q2=Ro.nil:=vH Vm Nz (by rw [k2];exact fP);have n3:Q3=Ro.nil:=by rw [<- Xm];exact if_pos (by rw [Vq,k3];exact fP)
  (refine ah bJ I (fun w' aB=>(T8 (Mem.keeps aB)))<|Ja I<|Ji<|Jv I<|Jv I<|Jv I<|Ja I<|Ja I<|Ja I<|Ji<|Jz I I fun _ _=>Jz I I fun _ _=>Jz I I fun _ _=>Jn<|Jq<|Jr<|Jv I<|JC I<|Jn<|Jc I fun aA=>Jk<|Jq<|Jr<|Jv I<|JC I<|Jn<|Jc I fun aA=>Jk<|Jr<|ab (bU Ik) I<|Jv I<|Jv I<|ab (bU bE) I ?_)
  with_reducible apply ah
  case hr=>exact mI
  case hd=>rfl
  case hc=>
   intro w1 aT;have o8:RR w1 (Q1) s1 d1 t1 p1:=⟨cF aT uV I,cH aT iQ I,cE aT fx I,cq aT (.there fx) I⟩;have my:RR w1 (Ro.nil) (.z) (.z) (.z) (.z):=vX w1;have uw:=jj o8 Uo my k1 (fun _=>n1) (fun q=>absurd q fP)
   exact uw
  (refine Jv I<|JK I I<|ab (bU DR) I<|JK I I<|Jv I<|JK I I<|Jv I<|JK I I<|ab (bU (.there .here)) I<|JK I I ?_)
  with_reducible apply ah
  case hr=>exact mI
  case hd=>rfl
  case hc=>
   intro w1 aT;have o8:RR w1 (Q2) s2 d2 t2 p2:=⟨cF aT jl I,cH aT lB I,cE aT tW I,cq aT lA I⟩;have my:RR w1 (Ro.nil) (.z) (.z) (.z) (.z):=vX w1;have uw:=jj o8 Un my k2 (fun _=>n2) (fun q=>absurd q fP)
   exact uw
  (refine ab (fQ (.of I) (.of I) (.of I) I) I<|Jv I<|JK I I<|ab (bU cI) I<|JK I I<|Jv I<|JK I I<|Jv I<|JK I I<|ab (bU .here) I<|JK I I ?_)
  with_reducible apply ah
  case hr=>exact mI
  case hd=>rfl
  case hc=>
   intro w1 aT;have o8:RR w1 (Q3) s3 d3 t3 p3:=⟨cF aT c7 I,cH aT ek I,cE aT nR I,cq aT tV I⟩;have my:RR w1 (Ro.nil) (.z) (.z) (.z) (.z):=vX w1;have uw:=jj o8 Um my k3 (fun _=>n3) (fun q=>absurd q fP)
   exact uw
  (refine ab (fQ (.of I) (.of I) (.of I) I) I<|Ja I<|Jn<|Je<|JT ?_)
  rfl
 rw [fP] at T8;obtain ⟨Q6,hX6⟩:∃ Q,(if r7 r a b=0 then r.wy a b else Ro.nil)=Q:=⟨_,rfl⟩
 have k3:E3=r7 r a b:=by rw [<- Vq];exact if_neg (not_not_intro fP)
 have n3:Q3=Q6:=by
  rw [<- Xm,<- hX6];unfold Ni;rw [Vq,k3];by_cases c:r7 r a b=0
  ·rw [if_pos c,if_neg (not_not_intro c)]
  ·rw [if_neg c,if_pos c]
 have m3:E3≠0->Q3=Ro.nil:=fun c=>by rw [<- Xm];exact if_pos (by rw [Vq];exact c)
 (refine ah bJ I (fun w' aB=>(T8 (Mem.keeps aB)))<|Ja I<|Ji<|Jv I<|Jv I<|Jv I<|Ja I<|Ja I<|Ja I<|Ji<|Jz I I fun _ _=>Jz I I fun _ _=>Jz I I fun _ _=>Jn<|Jq<|Jr<|Jv I<|JC I<|Jn<|Jd I fun aA=>Jr<|ab (bU (.there (.there fx))) I<|bD I I ae<|JL I (.there (.there (.there fx))) I<|ah bn I (fun w' aB=>(uP (Mem.keeps aB)))<|Ja I<|Ji<|Jv I<|Ja I<|Jn<|Jg<|ab (bU (.there (.there fx))) I<|bD I I ae<|JL I (.there (.there (.there fx))) I<|bD I I ae<|JL I (.there (.there (.there fx))) I ?_)
 rename_i RY Xh xY Xg b17 abU;refine JN dU I (fun w1 aT=>SO hX6 k3.symm (h.keeps aT.keeps) Bo) ?_;rintro ⟨s6,d6,t6,p6⟩ _
 try dsimp only [id_eq,Zb,Za]
 refine gO (r:=Q6) (s:=s6) (d:=d6) (t:=t6) (p:=p6) (bo _ _) fun ma6 mb6 mc6 md6=>?_;by_cases kz:mF r na=0
 rotate_left
 ·have EW:aY [fm r,mF r na]=mF r na:=by rw [fP];unfold aY;rw [if_neg (not_not_intro I)];unfold aY;rw [if_pos kz]
  have k1:E1=mF r na:=by rw [<- Vr];exact EW
  have k2:E2=mF r na:=by rw [<- Nz];unfold uS;rw [EW,if_pos kz]
  have n1:Q1=Ro.nil:=by rw [<- Xn];exact if_pos (by rw [Vr,k1];exact kz)
  have n2:Q2=Ro.nil:=vH Vm Nz (by rw [k2];exact kz)
  (refine Jv I<|JJ I I<|JJ I I<|ak (.of I) (.of I) c7 I I (dO I I ma6 mb6 mc6 md6) (br I) ai<|Ja I<|Jn<|Jq<|Jr<|Jv I<|JC I<|Jn<|Jc I fun aA=>Jk<|Jr<|ab (bU (.there fx)) I<|Jv I<|Jv I<|ab (bU nR) I ?_)
  with_reducible apply ah
  case hr=>exact mI
  case hd=>rfl
  case hc=>
   intro w1 aT;have o8:RR w1 (Q1) s1 d1 t1 p1:=⟨cF aT (.there (.there fx)) I,cH aT (.there (.there (.there fx))) I,cE aT (.there (.there (.there (.there fx)))) I,cq aT (.there (.there (.there (.there (.there fx))))) I⟩;have my:RR w1 (Ro.nil) (.z) (.z) (.z) (.z):=vX w1;have uw:=jj o8 Uo my k1 (fun _=>n1) (fun q=>absurd q kz)
   exact uw
  (refine Jv I<|JK I I<|ab (bU lA) I<|JK I I<|Jv I<|JK I I<|Jv I<|JK I I<|ab (bU ek) I<|JK I I ?_)
  with_reducible apply ah
  case hr=>exact mI
  case hd=>rfl
  case hc=>
   intro w1 aT;have o8:RR w1 (Q2) s2 d2 t2 p2:=⟨cF aT Ik I,cH aT uV I,cE aT iQ I,cq aT fx I⟩;have my:RR w1 (Ro.nil) (.z) (.z) (.z) (.z):=vX w1;have uw:=jj o8 Un my k2 (fun _=>n2) (fun q=>absurd q kz)
   exact uw
  (refine ab (fQ (.of I) (.of I) (.of I) I) I<|Jv I<|JK I I<|ab (bU tV) I<|JK I I<|Jv I<|JK I I<|Jv I<|JK I I<|ab (bU .here) I<|JK I I ?_)
  with_reducible apply ah
  case hr=>exact mI
  case hd=>rfl
  case hc=>
   intro w1 aT;have o8:RR w1 (Q3) s3 d3 t3 p3:=⟨cF aT DR I,cH aT jl I,cE aT lB I,cq aT tW I⟩;have my:RR w1 (Q6) s6 d6 t6 p6:=⟨cF aT (by exact Take.there .here) I,cH aT bE I,cE aT cI I,cq aT c7 I⟩;have uw:=jj o8 Um my I m3 (fun _=>n3)
   exact uw
  (refine ab (fQ (.of I) (.of I) (.of I) I) I<|Ja I<|Jn<|Je<|JT ?_)
  rfl
 have Up:aY [fm r,mF r na]=0:=by rw [fP,kz];rfl
 have Dm:na∈cu r:=GK kz;have k1:E1=mF r na:=by rw [<- Vr,kz];exact Up
 have n1:r.uL na q=Q1:=by rw [<- Xn];exact (if_neg (not_not_intro Up)).symm
 obtain ⟨I2,Vo⟩:=xB Up Vm Nz
 (refine Jv I<|JJ I I<|JJ I I<|ak (.of I) (.of I) c7 I I (dO I I ma6 mb6 mc6 md6) (br I) ai<|Ja I<|Jn<|Jq<|Jr<|Jv I<|JC I<|Jn<|Jd I fun aA=>Jr<|ab (bU (.there (.there (.there (.there (.there (.there fx))))))) I<|bD I I ae<|JL I (.there (.there (.there (.there (.there (.there (.there fx))))))) I<|bD I I ae<|JL I (.there (.there (.there (.there (.there (.there (.there fx))))))) I ?_)
 refine JN dU I (fun w1 aT=>OM Dm n1 (h.keeps aT.keeps) Bo) ?_;rintro ⟨s7,d7,t7,p7⟩ _
 try dsimp only [id_eq,Zb,Za]
 refine gO (r:=Q1) (s:=s7) (d:=d7) (t:=t7) (p:=p7) (bo _ _) fun ma7 mb7 mc7 md7=>?_
 (refine ak (.of I) (.of I) lB I I (dO I I ma7 mb7 mc7 md7) (br I) ai<|Jn<|Jg<|ab (bU (.there (.there (.there (.there (.there (.there (.there (.there (.there (.there fx))))))))))) I<|bD I I ae<|JL I (.there (.there (.there (.there (.there (.there (.there (.there (.there (.there (.there fx))))))))))) I ?_)
 refine JN bn I (fun w1 aT=>Ia Dm Vo (h.keeps aT.keeps) fP) ?_;rintro ⟨s8,d8,t8,p8⟩ _
 try dsimp only [id_eq,Zb,Za]
 refine gO (r:=Q2) (s:=s8) (d:=d8) (t:=t8) (p:=p8) (bo _ _) fun ma8 mb8 mc8 md8=>?_
 (refine Jv I<|JJ I I<|JJ I I<|ak (.of I) (.of I) uV I I (dO I I ma8 mb8 mc8 md8) (br I) ai<|Ja I<|Ji<|ab (bU (.there (.there (.there (.there (.there (.there (.there (.there (.there fx)))))))))) I<|Jv I<|Jv I<|ab (bU ek) I ?_)
 with_reducible apply ah
 case hr=>exact mI
 case hd=>rfl
 case hc=>
  intro w1 aT;have o8:RR w1 (Q1) s1 d1 t1 p1:=⟨cF aT (.there (.there (.there (.there (.there (.there (.there (.there (.there (.there fx)))))))))) I,cH aT (.there (.there (.there (.there (.there (.there (.there (.there (.there (.there (.there fx))))))))))) I,cE aT (.there (.there (.there (.there (.there (.there (.there (.there (.there (.there (.there (.there fx)))))))))))) I,cq aT (.there (.there (.there (.there (.there (.there (.there (.there (.there (.there (.there (.there (.there fx))))))))))))) I⟩;have my:RR w1 (Q1) s7 d7 t7 p7:=⟨cF aT nR I,cH aT tV I,cE aT DR I,cq aT jl I⟩;have uw:=jj o8 Uo my k1 (fun q=>absurd kz q) (fun _=>rfl)
  exact uw
 (refine Jv I<|JK I I<|ab (bU (.there (.there (.there (.there fx))))) I<|JK I I<|Jv I<|JK I I<|Jv I<|JK I I<|ab (bU .here) I<|JK I I ?_)
 with_reducible apply ah
 case hr=>exact mI
 case hd=>rfl
 case hc=>
  intro w1 aT;have o8:RR w1 (Q2) s2 d2 t2 p2:=⟨cF aT (.there (.there (.there (.there (.there fx))))) I,cH aT (.there (.there (.there (.there (.there (.there fx)))))) I,cE aT (.there (.there (.there (.there (.there (.there (.there fx))))))) I,cq aT (.there (.there (.there (.there (.there (.there (.there (.there fx)))))))) I⟩;have my:RR w1 (Q2) s8 d8 t8 p8:=⟨cF aT (by exact Take.there .here) I,cH aT bE I,cE aT cI I,cq aT c7 I⟩;have uw:=jj o8 Un my I (vH Vm Nz) (fun _=>rfl)
  exact uw
 (refine ab (fQ (.of I) (.of I) (.of I) I) I<|Jv I<|JK I I<|ab (bU iQ) I<|JK I I<|Jv I<|JK I I<|Jv I<|JK I I<|ab (bU lB) I<|JK I I ?_)
 with_reducible apply ah
 case hr=>exact mI
 case hd=>rfl
 case hc=>
  intro w1 aT;have o8:RR w1 (Q3) s3 d3 t3 p3:=⟨cF aT fx I,cH aT (.there fx) I,cE aT (.there (.there fx)) I,cq aT (.there (.there (.there fx))) I⟩;have my:RR w1 (Q6) s6 d6 t6 p6:=⟨cF aT tW I,cH aT lA I,cE aT Ik I,cq aT uV I⟩;have uw:=jj o8 Um my I m3 (fun _=>n3)
  exact uw
 (refine ab (fQ (.of I) (.of I) (.of I) I) I<|Ja I<|Jn<|Je<|JT ?_)
 rfl
end Go.Proofs.A1
