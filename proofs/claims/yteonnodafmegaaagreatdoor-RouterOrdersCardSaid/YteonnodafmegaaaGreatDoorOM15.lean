/- Parts of the proof: MO P6h GkPoolK MJ MK MP PW MQ. -/
import Derived.Test.YteonnodafmegaaaGreatDoorOM14
import Derived.Test.YteonnodafmegaaaGreatDoorOM04
import Derived.Test.YteonnodafmegaaaGreatDoorOM10
import Derived.Test.YteonnodafmegaaaGreatDoorOM08
set_option linter.unusedSectionVars false
set_option linter.unusedVariables false
set_option linter.unusedSimpArgs false
namespace Go.Proofs.A1
open Go Go.SL
open Tryz
open Tryz renaming prog->T_
theorem At.tie {c:Cx} {hs hs':List bd} {E:TypeId} {g n cap i j o:Nat} {l:List Ti} {u:Value} (ht:Take hs (row E 3 (.w g n cap) n (kz l)) hs') (hi:i<l.length) (hn:l.length=n) (hj:(Ti.cells l[i])[j]? = some u) (ho:o=i*3+j):At c hs g o u:=fun w hm=>by
 have h:=cF hm ht hn;obtain ⟨a,iz,b,o',e,_,_,ha,hc⟩:=h;injection e with e1 e2 e3
 have:=ha (fm hi);rw [this] at e1;injection e1 with e1
 injection e1 with e4 e5
 subst ho;have:=(hc i _ (ei hi)).2 j u hj;rw [<- e4,<- e5] at this;simpa using this
theorem OK {c:Cx} {D:List Nat} {sl:aL} {hs hs':List bd} {X:Act->World->Prop} {E:TypeId} {sz n:Nat} {v:Value} {xs:List Value} (ht:Take hs (row E sz v n xs) hs') (h0:0<n) (k:∀ g cap,v=.w g n cap->Tr c D sl hs X):Tr c D sl hs X:=fun a w ba=>by
 obtain ⟨_,fp,_,⟨f1,f2,_,h1,_⟩,_⟩:=ba.pq.take ht;obtain ⟨_,_,⟨rfl,rfl⟩ | ⟨g,cap,cur,rfl,_⟩⟩:=h1
 ·exact absurd h0 (Nat.lt_irrefl _)
 ·exact k _ _ I a w ba
theorem B8 (r:Ro) (v:Int) (i:Nat) (po:List Po):xU r v (i+1) po=if nf (xU r v i po) v (dh r i) then xU r v i po else Hl r v (dh r i) (xU r v i po):=rfl
theorem J9 (r:Ro) (k:Nat) (po:List Po):B7 r (k+1) po=xU r (k:Nat) r.ti.length (B7 r k po):=rfl
theorem Kl (r:Ro) (n:Nat) (po:List Po):yh r (n+1) po=B7 r r.lv.toNat (yh r n po):=rfl
theorem u7 (r:Ro) (v:Int) (po:List Po):∀ i,(xU r v i po).length<=po.length
 | 0=>Zy _
 | i + 1 => by
  rw [B8];split
  ·exact u7 r v po i
  ·exact ZQ (ZV _ _) (u7 r v po i)
theorem Ak (r:Ro) (po:List Po):∀ k,(B7 r k po).length<=po.length
 | 0=>Zy _
 | k+1=>ZQ (u7 _ _ _ _) (Ak r po k)
theorem FX (r:Ro) (po:List Po):∀ n,(yh r n po).length<=po.length
 | 0=>Zy _
 | n+1=>ZQ (Ak _ _ _) (FX r po n)
variable {fp:List Nat} {po:List Po} {r:Ro} {w:World}
set_option maxHeartbeats 1000000 in
theorem Tn {s d t p:Value} (jw:fp.Nodup) (hs:cr (hp w) (nQ r (s,d,t,p)) fp) (hf:jv r) (tO:0<=r.lv/\r.lv<=1000000):a8 T_ 169 [RA r s d t p] w fp (fun _:Value×Value×Value×Value=>True) (fun x=>RA r x.1 x.2.1 x.2.2.1 x.2.2.2) (fun x=>nQ (r.wp (yh r 6 r.po)) x):=by
 unfold RA;obtain ⟨f1,f2,f3,f4⟩:=hf;refine ek func169 I I jw hs ?_;refine iC (r:=r) (s:=s) (d:=d) (t:=t) (p:=p) (hs':=[]) (by have:=bo (nQ r (s,d,t,p)) [];rwa [ZJ] at this) fun k1 k2 k3 k4=>?_;refine aM (E:=118) (sz:=2) (v:=s) (by exact .here) fun sa0 sc0 e=>?_;subst e;refine aM (E:=88) (sz:=3) (v:=d) (by exact Take.there .here) fun da0 dc0 e=>?_;subst e;refine aM (E:=122) (sz:=3) (v:=t) bL fun ta0 tc0 e=>?_;subst e;refine aM (E:=180) (sz:=3) (v:=p) cX fun pa0 pc0 e=>?_;subst e;clear k1 k2 k3 k4;refine Jr<|Jy I I fun _ _=>Jz I I fun _ _=>Jn<|Jq<|Jr<|Ja I<|Jn<|J0 ?_;rename_i b1 tT b2 rM;refine aV (ι:=Nat×List Po×(Option Addr×Nat)×(Option Addr×Nat)×(Option Addr×Nat)×(Option Addr×Nat)) (fun y=>y.2.1=yh r y.1 r.po/\y.1<=6) (fun y=>[(3,.int .i64 (y.1:Nat)),(1,.pointer (some ⟨b1,0,none⟩)),(2,.pointer (some ⟨b2,0,none⟩))]) (fun y=>[row 118 2 (.slice y.2.2.1.1 r.sr.length y.2.2.1.2) r.sr.length (ko r.sr),row 88 3 (.slice y.2.2.2.1.1 r.de.length y.2.2.2.1.2) r.de.length (jt r.de),row 122 3 (.slice y.2.2.2.2.1.1 r.ti.length y.2.2.2.2.1.2) r.ti.length (kz r.ti),row 180 3 (.slice y.2.2.2.2.2.1 (y.2.1).length y.2.2.2.2.2.2) (y.2.1).length (gl (y.2.1)),JQ b1 r (.slice y.2.2.1.1 r.sr.length y.2.2.1.2) (.slice y.2.2.2.1.1 r.de.length y.2.2.2.1.2) (.slice y.2.2.2.2.1.1 r.ti.length y.2.2.2.2.1.2) (.slice y.2.2.2.2.2.1 (y.2.1).length y.2.2.2.2.2.2),bE b2 (.cells #[.int .i64 0,.int .i64 0,.slice none 0 0,.slice none 0 0,.slice none 0 0,.slice none 0 0] 27 (0,0))]) (fun y=>6-y.1) ?_ ?_
 ·with_reducible apply aI (0,r.po,(sa0,sc0),(da0,dc0),(ta0,tc0),(pa0,pc0)) ⟨I,Zi _⟩
  case hs1=>exact bS
  case ht=>exact .cons bL (.cons bL (.cons bL (.cons bL (.cons (.there .here) (.h1 .nil)))))
 rintro ⟨n,q1,⟨D3,D1⟩,⟨da1,dc1⟩,⟨ta1,tc1⟩,⟨pa1,pc1⟩⟩ ⟨oA,hn⟩;dsimp only at oA hn ⊢;by_cases hn6:n<6
 ·refine Jq<|Jr<|Jv I<|JA I<|Jn<|Jd I fun az=>Jk<|Jq<|J0<|Jr<|Ja I<|Jn<|J0 ?_;refine aV (ι:=Nat×List Po×(Option Addr×Nat)×(Option Addr×Nat)×(Option Addr×Nat)×(Option Addr×Nat)) (fun y=>y.2.1=B7 r y.1 q1/\y.1<=r.lv.toNat) (fun y=>[(4,.q (y.1:Nat)),(3,.q (n:Nat)),(1,.p b1),(2,.p b2)]) (fun y=>[row 118 2 (.slice y.2.2.1.1 r.sr.length y.2.2.1.2) r.sr.length (ko r.sr),row 88 3 (.slice y.2.2.2.1.1 r.de.length y.2.2.2.1.2) r.de.length (jt r.de),row 122 3 (.slice y.2.2.2.2.1.1 r.ti.length y.2.2.2.2.1.2) r.ti.length (kz r.ti),row 180 3 (.slice y.2.2.2.2.2.1 (y.2.1).length y.2.2.2.2.2.2) (y.2.1).length (gl (y.2.1)),JQ b1 r (.slice y.2.2.1.1 r.sr.length y.2.2.1.2) (.slice y.2.2.2.1.1 r.de.length y.2.2.2.1.2) (.slice y.2.2.2.2.1.1 r.ti.length y.2.2.2.2.1.2) (.slice y.2.2.2.2.2.1 (y.2.1).length y.2.2.2.2.2.2),bE b2 (.cells #[.q 0,.q 0,.z,.z,.z,.z] 27 (0,0))]) (fun y=>r.lv.toNat-y.1) ?_ ?_
  ·with_reducible apply aI (0,q1,(D3,D1),(da1,dc1),(ta1,tc1),(pa1,pc1)) ⟨I,Zi _⟩
   case hs1=>exact bS
   case ht=>exact iP
  rintro ⟨v,q2,⟨Pe,O8⟩,⟨Q9,Q8⟩,⟨OV,OR⟩,⟨PE,PC⟩⟩ ⟨lo,hv⟩;dsimp only at lo hv ⊢;by_cases IV:v<r.lv.toNat
  ·(refine Jq<|Jr<|Jv I<|bJ I I ae<|JL I dD I<|JA I<|Jn<|Jd I fun az=>Jk<|Jq<|J0<|Jr<|Ja I<|Jn<|J0 ?_)
   refine aV (ι:=Nat×List Po×(Option Addr×Nat)×(Option Addr×Nat)×(Option Addr×Nat)×(Option Addr×Nat)) (fun y=>y.2.1=xU r (v:Nat) y.1 q2/\y.1<=r.ti.length) (fun y=>[(5,.q (y.1:Nat)),(4,.q (v:Nat)),(3,.q (n:Nat)),(1,.p b1),(2,.p b2)]) (fun y=>[row 118 2 (.slice y.2.2.1.1 r.sr.length y.2.2.1.2) r.sr.length (ko r.sr),row 88 3 (.slice y.2.2.2.1.1 r.de.length y.2.2.2.1.2) r.de.length (jt r.de),row 122 3 (.slice y.2.2.2.2.1.1 r.ti.length y.2.2.2.2.1.2) r.ti.length (kz r.ti),row 180 3 (.slice y.2.2.2.2.2.1 (y.2.1).length y.2.2.2.2.2.2) (y.2.1).length (gl (y.2.1)),JQ b1 r (.slice y.2.2.1.1 r.sr.length y.2.2.1.2) (.slice y.2.2.2.1.1 r.de.length y.2.2.2.1.2) (.slice y.2.2.2.2.1.1 r.ti.length y.2.2.2.2.1.2) (.slice y.2.2.2.2.2.1 (y.2.1).length y.2.2.2.2.2.2),bE b2 (.cells #[.q 0,.q 0,.z,.z,.z,.z] 27 (0,0))]) (fun y=>r.ti.length-y.1) ?_ ?_
   ·with_reducible apply aI (0,q2,(Pe,O8),(Q9,Q8),(OV,OR),(PE,PC)) ⟨I,Zi _⟩
    case hs1=>exact bS
    case ht=>exact iP
   rintro ⟨i,q,⟨sa,sc⟩,⟨da,dc⟩,⟨ta,tc⟩,⟨pa,pc⟩⟩ ⟨hq,hi⟩;dsimp only at hq hi ⊢;by_cases aK:i<r.ti.length
   ·have zI:(r.ti[i]).nm=dh r i:=by unfold dh;rw [mS aK]
    have gQ:=B8 r (v:Nat) i q2;rw [<- hq] at gQ;have R8:q.length<=r.po.length:=by rw [hq,lo,oA];exact ZQ (u7 _ _ _ _) (ZQ (Ak _ _ _) (FX _ _ _))
    refine OK (E:=122) (sz:=3) (v:=.slice ta r.ti.length tc) bL (by omega) fun tg tc' e=>?_;cases e;have hcT:(Ti.cells r.ti[i])[0]? = some (.string (dh r i)):=by rw [<- zI];rfl
    have Xl:∀ w',RR w' (r.wp q) (.slice sa r.sr.length sc) (.slice da r.de.length dc) (.w tg r.ti.length tc) (.slice pa q.length pc)->aj T_ 233 [.agg #[.q r.lv,.q r.ma,.slice sa r.sr.length sc,.slice da r.de.length dc,.w tg r.ti.length tc,.slice pa q.length pc],.q (v:Nat),.string (dh r i)] w' (.bool (nf q (v:Nat) (dh r i))):=fun w' hR=>Kd _ _ hR
    (refine Jq<|Jr<|Jv I<|bJ I I ae<|JL I dD I<|JI I<|JA I<|Jn<|Jd I fun az=>Jk<|Jq<|J0<|Jq ?_)
    with_reducible refine cN 10 (by kernel_rfl) ?_
    refine aA (cm dD) I ?_;refine gn I I ?_;refine lS I I ae ?_;refine aA (gX dD) I ?_;refine gn I I ?_;refine aA (an (.of I) (.of I) I (by omega) az aW) I ?_;refine lS I I ae ?_;refine aA (ag (.of I) (At.tie bL aK I hcT I)) I ?_
    (refine dp ef I (fun w' aB=>(Xl w' (RR.wp (cG aB .here I) (cI aB (.there .here) I) (cF aB bL I) (ct aB cX I))))<|aA (dN (.of I)) I ?_)
    with_reducible refine cT ?_
    (refine Jn<|nj I (fun az=>?_) fun az=>?_;rotate_left;refine Jw<|Jj<|Jt<|Jg<|Jv I<|JB I (by omega)<|Ja I<|Jn ?_;rotate_right)
    ·have e:nf q (v:Nat) (dh r i)=false:=az;rw [e,if_neg (by decide)] at gQ
     with_reducible refine dE 9 (by kernel_rfl) ?_
     refine au (fun β=>(bK (.of I) dD ak (by rfl))) bh I ?_;refine au (fun β=>(aP (.of I))) bh I ?_;refine au (fun β=>(aq (.of I) ae)) bh I ?_;refine au (fun β=>(ag (.of I) (At.lit dD I))) bh I ?_;refine au (fun β=>(aP (.of I))) bh I ?_;refine au (fun β=>(an (.of I) (.of I) I (by omega) (by assumption) aW)) bh I ?_;refine au (fun β=>(aq (.of I) ae)) bh I ?_;refine au (fun β=>(ag (.of I) (At.tie bL aK I hcT I))) bh I ?_;dsimp only [Nat.zero_add,Nat.reduceAdd]
     with_reducible apply eB (ι:=Value×Value×Value×Value) (Φ:=fun _=>True) (val:=fun x=>.agg #[.q r.lv,.q r.ma,x.1,x.2.1,x.2.2.1,x.2.2.2]) (own:=fun x=>nQ (r.wp (Hl r (v:Nat) (dh r i) q)) x) (g:=g4) (B:=[]) (args:=fun _=>[.agg #[.q r.lv,.q r.ma,.slice sa r.sr.length sc,.slice da r.de.length dc,.w tg r.ti.length tc,.slice pa q.length pc],.q (v:Nat),.string (dh r i)])
     case hg=>exact pJ
     case hB=>rfl
     case hr=>exact fun β=>a7 (.of I) (.o I (.o I (.o I .nil))) inferInstance I
     case hd=>rfl
     case hc=>exact fun β w' hb=>FV (r:=r.wp q) (v:Nat) (dh r i) (RR.wp (r:=r) (po:=q) (cG hb.mem (by exact .here) I) (cI hb.mem (by exact Take.there .here) I) (cF hb.mem bL I) (ct hb.mem cX I)) ⟨f1,f2,f3,ZQ R8 f4⟩
     refine eS fun β=>?_;unfold nQ Ro.wp;dsimp only [dY,Za,Zb,List.append_eq,Nat.reduceAdd];generalize g4 (β 8)=y;obtain ⟨s2,d2,t2,p2⟩:=y;clear β;dsimp only;generalize Hl r (v:Nat) (dh r i) q=z at gQ ⊢;refine aM (E:=118) (sz:=2) (v:=s2) (by exact .here) fun IN IM e3=>?_;subst e3;refine aM (E:=88) (sz:=3) (v:=d2) (by exact Take.there .here) fun I5 I4 e3=>?_;subst e3;refine aM (E:=122) (sz:=3) (v:=t2) bL fun IK IJ e3=>?_;subst e3;refine aM (E:=180) (sz:=3) (v:=p2) cX fun IQ IP e3=>?_;subst e3;refine dM [row 118 2 (.slice IN r.sr.length IM) r.sr.length (ko r.sr),row 88 3 (.slice I5 r.de.length I4) r.de.length (jt r.de),row 122 3 (.slice IK r.ti.length IJ) r.ti.length (kz r.ti),row 180 3 (.slice IQ (z).length IP) (z).length (gl (z)),JQ b1 r (.slice sa r.sr.length sc) (.slice da r.de.length dc) (.slice (some ⟨tg,0,none⟩) r.ti.length tc) (.slice pa q.length pc),bE b2 (.cells #[.int .i64 0,.int .i64 0,.slice none 0 0,.slice none 0 0,.slice none 0 0,.slice none 0 0] 27 (0,0))] (by exact .h4 (.cons dD (.cons dD .nil))) ?_;refine bI (rs:=[9]) (by kernel_rfl) (by simp) (Zq.2 ⟨?_,fun _ h=>absurd h Zo⟩);refine bP I ?_
     (refine ao (.of I) (.of I) dD I I (eF I I I I I I) (bz I) ak<|Jn ?_)
     with_reducible refine cu (by kernel_rfl) ?_
     refine Jj<|Jt<|Jg<|Jv I<|JB I (by omega)<|Ja I<|Jn ?_
     with_reducible apply aH (i+1,z,(IN,IM),(I5,I4),(IK,IJ),(IQ,IP)) ⟨gQ.symm,ZX aK⟩ (show r.ti.length-(i+1)<r.ti.length-i by omega)
     case hs1=>exact bS
     case ht=>exact iP
    ·have e:nf q (v:Nat) (dh r i)=true:=by simpa using az
     rw [e,if_pos I] at gQ
     with_reducible apply aH (i+1,q,(sa,sc),(da,dc),(some ⟨tg,0,none⟩,tc),(pa,pc)) ⟨gQ.symm,ZX aK⟩ (show r.ti.length-(i+1)<r.ti.length-i by omega)
     case hs1=>exact bS
     case ht=>exact iP
   ·obtain rfl:i=r.ti.length:=by omega
    have gQ:q=B7 r (v+1) q1:=by rw [hq,J9,<- lo]
    (refine Jq<|Jr<|Jv I<|bJ I I ae<|JL I dD I<|JI I<|JA I<|Jn<|Jc I fun az=>Jp<|Jl<|Jo<|Jj<|Jt<|Jg<|Jv I<|JB I (by omega)<|Ja I<|Jn ?_)
    with_reducible apply aH (v+1,q,(sa,sc),(da,dc),(ta,tc),(pa,pc)) ⟨gQ,ZX IV⟩ (show r.lv.toNat-(v+1)<r.lv.toNat-v by omega)
    case hs1=>exact bS
    case ht=>exact iP
  ·obtain rfl:v=r.lv.toNat:=by omega
   have gQ:q2=yh r (n+1) r.po:=by rw [lo,Kl,<- oA]
   (refine Jq<|Jr<|Jv I<|bJ I I ae<|JL I dD I<|JA I<|Jn<|Jc I fun az=>Jp<|Jl<|Jo<|Jj<|Jt<|Jg<|Jv I<|JB I (by omega)<|Ja I<|Jn ?_)
   with_reducible apply aH (n+1,q2,(Pe,O8),(Q9,Q8),(OV,OR),(PE,PC)) ⟨gQ,ZX hn6⟩ (show 6-(n+1)<6-n by omega)
   case hs1=>exact bS
   case ht=>exact iP
 ·obtain rfl:n=6:=by omega
  subst oA
  (refine Jq<|Jr<|Jv I<|JA I<|Jn<|Jc I fun az=>Jp<|Jl<|Jo<|Jt<|Jr<|ab (cm dD) I<|ao (.of I) (.of I) eu I I (eF I I I I I I) (bz I) ak<|Jn<|Je ?_)
  with_reducible first|apply aO|apply aQ
  case he=>exact iK I inferInstance I .here ak (by rfl)
  case hR=>
   intro w' aB;exact aD (.slice D3 r.sr.length D1,.slice da1 r.de.length dc1,.slice ta1 r.ti.length tc1,.slice pa1 (yh r 6 r.po).length pc1) trivial (by exact .cons (.there .here) (.cons (.there .here) (.cons (.there .here) (.cons (.there .here) .nil)))) aB I
theorem Ka (r:Ro) (q:List Po) (v:Int) (po:List Po):∀ i,xU (r.wp q) v i po=xU r v i po
 | 0=>rfl
 | i+1=>by rw [xU,xU,Ka r q v po i];rfl
theorem J7 (r:Ro) (q:List Po) (po:List Po):∀ k,B7 (r.wp q) k po=B7 r k po
 | 0=>rfl
 | k+1=>by rw [B7,B7,J7 r q po k,Ka];rfl
theorem Kk (r:Ro) (q:List Po) (po:List Po):∀ n,yh (r.wp q) n po=yh r n po
 | 0=>rfl
 | n+1=>by rw [yh,yh,Kk r q po n,J7];rfl
theorem M6 (h:rQ r) (l:List Tk):yh r 6 (iL r l l.length)=nO r l:=by
 unfold nO;have e:=je r l l.length;refine OF h.wJ (by rw [e];exact h.val.acy.sub _) fun p hp=>?_;rw [e] at hp;exact h.val.LS p (Zr.1 hp).1
theorem YW (h:∀ p∈po,p.ip≠⟨#[]⟩) (v:Int) (x:ByteArray):(eD po v x).getD ⟨#[]⟩=⟨#[]⟩↔gL po v x=false:=by
 unfold gL;cases e:eD po v x with
 | none=>simp
 | some i =>
  obtain ⟨p,hp,_,_,rfl⟩:=fG e;simpa using h p hp
theorem yS (r:Ro) (v:Int):∀ (p:List Nat) (po:List Po) (x:ByteArray) (i:Nat),hG r v po x (p++[i])=(if gL (hG r v po x p).1 v (dh r i) then (hG r v po x p).1 else eJ r ⟨v,dh r i,(hG r v po x p).2⟩ (hG r v po x p).1,dh r i)
 | [],po,x,i=>rfl
 | j::p,po,x,i=>by rw [Zb,hG,hG,yS r v p]
theorem Hi {v:Int} {p:List Nat} {x:ByteArray} {k:Nat} (h:k<p.length):hG r v po x (p.take (k+1))=(if gL (hG r v po x (p.take k)).1 v (dh r p[k]) then (hG r v po x (p.take k)).1 else eJ r ⟨v,dh r p[k],(hG r v po x (p.take k)).2⟩ (hG r v po x (p.take k)).1,dh r p[k]):=by
 rw [Zl h,yS]
theorem P6 {x p:Po} {l:List Po}:p∈eJ r x l↔p=x\/p∈l:=by rw [(lP r x l).mem_iff,ZS]
theorem P7 (r:Ro) (x:Po) (l:List Po):(eJ r x l).length=l.length+1:=by rw [(lP r x l).length_eq,ZA]
theorem Ae {r:Ro} {v:Int} (hT:∀ x∈cQ r,x≠⟨#[]⟩):∀ (p:List Nat) (po:List Po) (x:ByteArray),(∀ i∈p,i<r.ti.length)->(∀ q∈po,q.ip≠⟨#[]⟩)->x≠⟨#[]⟩->(∀ q∈(hG r v po x p).1,q.ip≠⟨#[]⟩)/\(hG r v po x p).2≠⟨#[]⟩/\(hG r v po x p).1.length<=po.length+p.length
 | [],po,x,_,h1,h2=>⟨h1,h2,Zy _⟩
 | i :: p, po, x, hi, h1, h2 => by
  have hx:=hT _ (mD (hi i Zu));rw [hG];have hr:=fun j hj=>hi j (ZM _ hj)
  by_cases hb:gL po v (dh r i)=true
  ·rw [if_pos hb];obtain ⟨g1,g2,g3⟩:=Ae hT p po (dh r i) hr h1 hx;exact ⟨g1,g2,by rw [ZA];omega⟩
  ·rw [if_neg hb];obtain ⟨g1,g2,g3⟩:=Ae hT p (eJ r ⟨v,dh r i,x⟩ po) (dh r i) hr (fun q hq=>by
    rcases P6.1 hq with e | hq
    ·rw [e];exact h2
    ·exact h1 q hq) hx
   exact ⟨g1,g2,by rw [P7] at g3;rw [ZA];omega⟩
theorem a8.sub {P:Program} {f:FuncId} {args:List Value} {ι:Type} {Φ:ι->Prop} {val:ι->Value} {own:ι->List bd} (h:a8 P f args w fp Φ val own):a8 P f args w fp (fun _:{x:ι // Φ x}=>True) (fun x=>val x.1) (fun x=>own x.1):=
 Calls.mono h fun e w' ⟨x,he,hx,r⟩=>⟨⟨x,hx⟩,he,trivial,r⟩
end Go.Proofs.A1
namespace Go.SL
open Go
theorem zu {E:TypeId} {ws:List Value} {ys:List (List Value)}:∀ {vs:List Value} {xs:List (List Value)},vs.length=xs.length->fW E (vs++ws) (xs++ys)=fW E vs xs++fW E ws ys
 | [],[],_=>rfl
 | [],_::_,h=>by simp at h
 | _::_,[],h=>by simp at h
 | v' :: vs, x' :: xs, h => by
  simp only [ZA,Nat.add_right_cancel_iff] at h;simp only [Zb,fW,zu h]
section
variable {P:Program} {c:Cx} {D:List Nat} {sl:aL} {hs:List bd} {X:Act->World->Prop}
theorem Cf {E:TypeId} {vs ws:List Value} {xs ys:List (List Value)} {h1 h2:List bd} (ht:Take hs (iG E vs xs) h1) (ht2:Take h1 (iG E ws ys) h2) (hl:vs.length=xs.length)
  (k:Tr c D sl (iG E (vs++ws) (xs++ys)::h2) X):Tr c D sl hs X:=fun a w ba=>by
 have hT:bB hs [iG E vs xs,iG E ws ys] h2:=.cons ht (.cons ht2 .nil);have hm:=ba.mem.jj (hT.append (nB D));obtain ⟨kk,fp,uD,⟨f1,f2',rfl,g1,⟨f2,f3,rfl,g2,g3⟩⟩,hb⟩:=hm;refine k a w (ba.heap ⟨kk,(f1++f2)++f3,by rw [Zh];exact uD,⟨f1++f2,f3,I,?_,g3⟩,by rw [Zh];exact hb⟩);show cr (hp w) (fW E (vs++ws) (xs++ys)) (f1++f2);rw [zu hl];exact cr.append_iff.2 ⟨f1,f2,I,g1,g2⟩
end
end Go.SL
namespace Go.Proofs.A1
open Go Go.SL
open Tryz
open Tryz renaming prog->T_
structure mg (gz:List Value) (W:List (List ByteArray)) (bv:Value) (B:List ByteArray) (vs:List Value) (xs:List (List Value)):Prop where
 len:gz.length=W.length
 pl:vs.length=xs.length
 rd:∀ (i:Nat) (x:Value) (L:List ByteArray),gz[i]? = some x->W[i]? = some L->(x=bv/\L=B)\/∃ j:Nat,vs[j]? = some x/\xs[j]? = some (aR L)
theorem mg.one (bv:Value) (B:List ByteArray):mg [bv] [B] bv B [] []:=⟨I,I,fun i x L hx hL=>by
 cases i with
 | zero=>simp at hx hL;exact .inl ⟨hx.symm,hL.symm⟩
 | succ i=>simp at hx⟩
theorem mg.nil (bv:Value) (B:List ByteArray):mg [] [] bv B [] []:=⟨I,I,fun i x L hx _=>by simp at hx⟩
variable {L:List ByteArray} {de:ByteArray} {k:Nat} {l:List Tk} {r:Ro} {so:ByteArray} {v:Int} {vs:List Value} {w:World} {x:Value} {xs:List (List Value)}
theorem VF {p:List Nat} (hp:(dG r r.po v so).ok p) {j:Nat} (hl:p.getLast? = some j):(dG r r.po v so).fin p=(ia r j).to:=by
 unfold Wn.fin;rw [hl];rfl
theorem F2 {c:Cx} {D:List Nat} {sl:aL} {hs:List bd} {X:Act->World->Prop} {p:Prop} (h:∀ w,Mem c hs w->p) (k:p->Tr c D sl hs X):Tr c D sl hs X:=fun a w ba=>k (h w ba.pq) a w ba
theorem HK {c:Cx} {hs hs':List bd} {E:TypeId} (hm:Mem c hs w) (ht:Take hs (iG E vs xs) hs') {j:Nat} {x:Value} {X:List Value} (h:vs[j]? = some x) (h2:xs[j]? = some X):x.oneCell'=true:=Rd.one (hm.wy ht h h2)
theorem zx:∀ l:List Value,(l.map fun u=>[u]).flatten=l
 | []=>rfl
 | x::l=>by rw [Z3,ZaB,zx l];rfl
theorem pL {α β:Type} {f:α->List β} {m:Nat}:∀ l:List α,(∀ j∈l,(f j).length<=m)->(l.flatMap f).length<=l.length*m
 | [],_=>by simp
 | x :: l, h => by
  have h1:=h x Zu;have h2:=pL l fun j hj=>h j (ZM _ hj)
  rw [List.flatMap_cons,Zg,ZA,Zai];omega
theorem Wn.Hf {N:Wn} {d:Int} (hn:N.n<=6):∀ (k:Nat) (p:List Nat),(N.all d k p).length<=7 ^ k
 | 0,_=>Zi _
 | k + 1, p => by
  have h1:=pL (f:=fun j=>N.all d k (p++[j])) (m:=7 ^ k) ((List.range N.n).filter (N.step p)) fun j _=>Wn.Hf hn k (p++[j])
  have h2:((List.range N.n).filter (N.step p)).length<=6:=ZQ (ZV _ _) (by rw [Zau];exact hn);have h3:=Z7 (7 ^ k) h2;have h4:0<7 ^ k:=Nat.pow_pos (by decide);rw [Wn.all,Zg,Nat.pow_succ];have h5:(if N.fin p=d then [p] else []).length<=1:=by split <;> simp
  omega
theorem FM (hn:r.ti.length<=6) (k:Nat) (p:List Nat):(JV r v so de k p).length<=7 ^ k:=by
 unfold JV;rw [Zd];exact Wn.Hf hn k p
theorem OA (hn:r.ti.length<=6) (k:Nat) (p:List Nat) (i:Nat):(S7 r v so de k p i).length<=i*7 ^ k:=by
 refine ZQ (pL (m:=7 ^ k) _ fun j _=>FM hn k _) (Z7 _ ?_);exact ZQ (ZV _ _) (by rw [Zau];exact Zy _)
theorem abj (h:k<=6):7 ^ k<=117649:=ZQ (Nat.pow_le_pow_right (by decide) h) (by decide)
theorem mg.app {gz oT:List Value} {W W2:List (List ByteArray)} {bv mv:Value} {B M:List ByteArray} {vs Tc:List Value} {xs VM:List (List Value)} (h:mg gz W bv B vs xs) (h2:mg oT W2 mv M Tc VM):mg (gz++oT) (W++W2) bv B (vs++[mv]++Tc) (xs++[aR M]++VM):=by
 have w9:=h.pl;refine ⟨by rw [Zg,Zg,h.len,h2.len],by simp only [Zg,h.pl,h2.pl,Z9],fun i x L hx hL=>?_⟩;by_cases hi:i<gz.length
 ·rw [ZB hi] at hx;rw [ZB (by rw [<- h.len];exact hi)] at hL;rcases h.rd i x L hx hL with e | ⟨j,e1,e2⟩
  ·exact .inl e
  ·have hj:=(Zn.1 e1).1;refine .inr ⟨j,?_,?_⟩
   ·rw [Zh,ZB hj];exact e1
   ·rw [Zh,ZB (by omega)];exact e2
 ·rw [ZC (by omega)] at hx;rw [ZC (by rw [<- h.len];omega),<- h.len] at hL;rcases h2.rd _ x L hx hL with ⟨e1,e2⟩ | ⟨j,e1,e2⟩
  ·subst e1 e2;refine .inr ⟨vs.length,?_,?_⟩
   ·rw [Zh,ZC (Zy _),Nat.sub_self];rfl
   ·rw [Zh,w9,ZC (Zy _),Nat.sub_self];rfl
  ·refine .inr ⟨vs.length+1+j,?_,?_⟩
   ·rw [ZC (by rw [Zg,Z9];omega),Zg,Z9,Zbr];exact e1
   ·rw [ZC (by rw [Zg,Z9];omega),Zg,Z9,<- w9,Zbr];exact e2
set_option maxHeartbeats 2000000 in
theorem JZ {r:Ro} {s d t p':Value} (v:Int) (so de:ByteArray) (hb:gy r=0) (hs:so∈cK r) (hd:de∈cE r) (jw:(cQ r).Nodup):∀ (k:Nat) {p:List Nat} {bv:Value} {w:World},RR w r s d t p'->(dG r r.po v so).ok p->k+p.length=r.ti.length+1->Rd w bv 1 (gi (p.map (dh r))) ->
  a8 T_ 182 [RA r s d t p',.q v,.string so,.string de,bv] w [] (fun y:Value×List Value×List Value×List (List Value)=>mg y.2.1 (JV r v so de k p) bv (p.map (dh r)) y.2.2.1 y.2.2.2) (fun y=>y.1) (fun y=>[row 32 1 y.1 y.2.1.length y.2.1,iG 9 y.2.2.1 y.2.2.2])
 | 0, p, bv, w, h, hp, hk, hl => by
  have:=Wn.rk hp;have e:(dG r r.po v so).n=r.ti.length:=rfl;omega
 | k + 1, p, bv, w, h, hp, hk, hl => by
  have ih:=@JZ r s d t p' v so de hb hs hd jw k;have dU:=A2 hb;have aK:∀ i∈p,i<r.ti.length:=Wn.sq hp;have hL:∀ x∈p.map (dh r),x∈cQ r:=fun x hx=>by
   obtain ⟨i,hi,rfl⟩:=Zx.1 hx;exact mD (aK i hi)
  obtain ⟨h1,h2,h3,h4⟩:=h.one;have h5:=Rd.one hl;obtain ⟨i0,vB,ei0,em0⟩:=RI hs;have Mu:∀ {w'},aJ [] w w'->aj T_ 130 [.agg #[.int .i64 r.lv,.int .i64 r.ma,s,d,t,p'],.string so] w' (.int .i64 (i0:Nat)):=fun hk=>by rw [<- ei0];exact sT so (h.keeps hk)
  have hiw:∀ {w'},aJ [] w w'->aj T_ 75 [.agg #[.q r.lv,.q r.ma,s,d,t,p'],.q v,.string so,.string de,bv] w' (.bool (decide ((dG r r.po v so).fin p=k7 r de))):=fun hk=>by rw [<- Ua dU jw hs hp];exact P3 v so de (h.keeps hk) hb hs hd (Rd.keeps hl hk) hL
  have yx:∀ (o:ByteArray) {w'},aJ [] w w'->aj T_ 133 [.agg #[.q r.lv,.q r.ma,s,d,t,p'],.q v,.string o] w' (.string ((eD r.po v o).getD ⟨#[]⟩)):=fun o _ hk=>qq v o (h.keeps hk)
  have H9:∀ (o:ByteArray),o≠⟨#[]⟩->∀ {w'},aJ [] w w'->aj T_ 131 [.agg #[.q r.lv,.q r.ma,s,d,t,p'],.q v,.string o] w' (.string (j4 r v o)):=fun o ho _ hk=>by rw [<- vH hb v ho];exact qC v o ho (h.keeps hk)
  have Db:=h.sr;have yt:=h.ti;have nN:=hl;obtain ⟨a1,eo,I7,IU,rfl,oC,ix,mm,kL⟩:=Db;obtain ⟨a3,dT,Ha,Gp,rfl,mP,gF,rN,oR⟩:=yt;obtain ⟨a4,eW,Ol,IS,rfl,qT,jE,zM,tR⟩:=nN;rw [cy] at *;rw [bV] at *;rw [bG,Zd] at *;unfold maxLen at ix gF jE;have xl:=mm (iF vB);have cS:w.cell? ⟨I7,IU+i0*2+1,none⟩=some (.int .i64 (oH r so)):=by rw [em0];exact (kL i0 _ (fZ vB)).2 1 _ I
  unfold RA;refine aS func182 I I ?_;refine qZ ?_;refine nq ?_;refine bj (K5 (.of I) I) I (fun _ _=>?_);refine a_s I I ?_;refine vO ?_;refine vb ?_;refine qZ ?_;refine nq ?_;refine a_s I I ?_;refine vO ?_;refine vb ?_;rename_i b5 Ia;refine Ku (ι:=Value×List Value) (fun y=>mg y.2 (if (dG r r.po v so).fin p=k7 r de then [p.map (dh r)] else []) (.slice a4 p.length eW) (p.map (dh r)) [] []) (fun y=>[(11,y.1),(1,.q v),(2,.string so),(3,.string de),(4,.slice a4 p.length eW),(5,.p b5)]) (fun y=>[row 32 1 y.1 y.2.length y.2,JQ b5 r (.slice a1 r.sr.length eo) d (.slice a3 r.ti.length dT) p']) ?_ ?_
  ·(refine Jr<|ab (cm .here) I<|Jv I<|Jv I<|Jv I<|Jv I<|ai DW I (fun w' aB=>(hiw (Mem.keeps aB)))<|Jn<|gm I (fun az=>?_) fun az=>?_;refine Jg<|Jv I<|Jv I<|bj (aG (.o I .nil) I I I I) I fun _ _=>?_;rotate_left;refine Jk ?_;rotate_right)
   ·refine aN 32 1 ?_;refine bu (.of I) (.of I) .here (.there .here) ak (by rfl) (dR I) (by rfl) (by rfl) (by rfl) ed (by rfl) ?_;intro q;refine Ja I<|Jn ?_;dsimp only [Za,Nat.zero_add]
    with_reducible apply vd (q,[.slice a4 p.length eW]) (by rw [if_pos az];exact mg.one _ _)
    case h1=>exact .cons I (.cons I (.cons I (.cons I (.cons I (.cons I .nil)))))
    case ht=>
     exact .h1 (.cons (.there .here) .nil)
   ·refine aN 32 1 ?_
    with_reducible apply vd (.z,[]) (by rw [if_neg az];exact mg.nil _ _)
    case h1=>exact .cons I (.cons I (.cons I (.cons I (.cons I (.cons I .nil)))))
    case ht=>
     exact .h2 .nil
  rintro ⟨ov,gz⟩ hW;dsimp only at hW ⊢;refine qZ ?_
  with_reducible refine cN 9 (by kernel_rfl) ?_
  (refine lS I I ae<|aA (gX (.there .here)) I<|aA (cm (.there .here)) I<|gn I I<|dp bb I (fun w' aB=>(Mu (Mem.keeps aB)))<|aA (an (.of I) (.of I) xl (by omega) (by omega) aW) I<|lS I I ae<|aA (ag (.of I) (At.base cS I)) I<|aA (cM (.of I)) I ?_)
  with_reducible refine cT ?_
  refine vO ?_;refine vb ?_;refine Ku (ι:=Unit) (fun _=>True) (fun _=>[(11,ov),(12,.q ((dG r r.po v so).fin p)),(1,.q v),(2,.string so),(3,.string de),(4,.slice a4 p.length eW),(5,.p b5)]) (fun _=>[row 32 1 ov gz.length gz,JQ b5 r (.slice a1 r.sr.length eo) d (.slice a3 r.ti.length dT) p']) ?_ ?_
  ·by_cases hne:p=[]
   ·have hz:p.length=0:=by rw [hne];rfl
    have e:(dG r r.po v so).fin p=oH r so:=by rw [hne];exact oZ hs
    rw [e];refine Jr<|Jv I<|JI I<|JE I<|Jn<|Jc I fun az=>Jk ?_
    with_reducible apply vd () trivial
    case h1=>exact .cons I (.cons I (.cons I (.cons I (.cons I (.cons I (.cons I .nil))))))
    case ht=>exact iP
   have hlp:0<p.length:=List.length_pos_iff.2 hne;have hj:=aK _ (List.getLast_mem hne);have UQ:=VF hp (List.getLast?_eq_some_getLast hne);have Oc:p[p.length-1]'(by omega)=p.getLast hne:=(List.getLast_eq_getElem hne).symm;generalize p.getLast hne=j at hj UQ Oc;have IW:p.length-1<(p.map (dh r)).length:=by rw [Zd];omega
   have adb:=zM (iE IW);have c4:w.cell? ⟨Ol,IS+((p.length:Int)-1).toNat*1,none⟩=some (.string (dh r j)):=by
    rw [show ((p.length:Int)-1).toNat=p.length-1 by omega];have:=(tR _ _ (fM IW)).2 0 _ I;rw [ZZ,Oc] at this;exact this
   have GM:∀ {w'},aJ [] w w'->aj T_ 60 [.agg #[.q r.lv,.q r.ma,.slice a1 r.sr.length eo,d,.slice a3 r.ti.length dT,p'],.string (dh r j)] w' (.q (j:Nat)):=fun hk=>by rw [<- sP jw hj];exact qx _ (h.keeps hk)
   have yC:=rN (fm hj);have c3:w.cell? ⟨Ha,Gp+j*3+2,none⟩=some (.q (ia r j).to):=by rw [mS hj];exact (oR j _ (ei hj)).2 2 _ I
   rw [<- UQ] at c3;refine Jr<|Jv I<|JI I<|JE I<|Jn<|Jd I fun az=>?_
   with_reducible refine cN 14 (by kernel_rfl) ?_
   (refine lS I I ae<|aA (gX (.there .here)) I<|aA (cm (.there .here)) I<|gn I I<|gn I I<|aA (bZ (.of I)) I<|aA (q8 (.of I) (.of I) (R3 (by omega))) I<|aA (an (.of I) (.of I) adb (by omega) (by omega) aW) I<|aA (ag (.of I) (At.base c4 I)) I<|dp bb I (fun w' aB=>(GM (Mem.keeps aB)))<|aA (an (.of I) (.of I) yC (by omega) (by omega) aW) I<|lS I I ae<|aA (ag (.of I) (At.base c3 I)) I<|aA (cM (.of I)) I ?_)
   with_reducible refine cT ?_
   refine Jn ?_
   with_reducible apply vd () trivial
   case h1=>exact .cons I (.cons I (.cons I (.cons I (.cons I (.cons I (.cons I .nil))))))
   case ht=>exact iP
  rintro ⟨⟩ _;refine Jq<|Jr<|Ja I<|Jn<|J0 ?_;refine jL 9 ?_;refine aV (ι:=Nat×Value×List Value×List Value×List (List Value)) (fun y=>y.1<=r.ti.length/\mg y.2.2.1 ((if (dG r r.po v so).fin p=k7 r de then [p.map (dh r)] else [])++S7 r v so de k p y.1) (.slice a4 p.length eW) (p.map (dh r)) y.2.2.2.1 y.2.2.2.2) (fun y=>[(13,.int .i64 (y.1:Nat)),(11,y.2.1),(12,.int .i64 ((dG r r.po v so).fin p)),(1,.int .i64 v),(2,.string so),(3,.string de),(4,.slice a4 p.length eW),(5,.pointer (some ⟨b5,0,none⟩))]) (fun y=>[row 32 1 y.2.1 y.2.2.1.length y.2.2.1,iG 9 y.2.2.2.1 y.2.2.2.2,JQ b5 r (.slice a1 r.sr.length eo) d (.slice a3 r.ti.length dT) p']) (fun y=>r.ti.length-y.1) ?_ ?_
  ·with_reducible apply aI (0,ov,gz,[],[]) ⟨Zi _,by rw [show S7 r v so de k p 0=[] from I,ZJ];exact hW⟩
   case hs1=>exact bS
   case ht=>exact iP
  clear hW;rintro ⟨i,ov,gz,vs,xs⟩ ⟨hi,hW⟩;dsimp only at hi hW ⊢;by_cases gV:i<r.ti.length
  ·have cq:=rN (fm gV);obtain ⟨fo,aC⟩:=oR i _ (ei gV);unfold Ti.cells at aC;have rL:=fun {w'}=>H9 r.ti[i].nm (RE hb gV) (w':=w')
   have hhw:∀ {w'},aJ [] w w'->aj T_ 59 [.slice a4 p.length eW,.string r.ti[i].nm] w' (.bool (p.contains i)):=fun hk=>by
    rw [<- MJ jw aK gV,show dh r i=r.ti[i].nm by unfold dh;rw [mS gV]];exact MH _ (Rd.keeps hl hk)
   have g1:=Fw hb v r.ti[i].nm;have g2:=Fv hb v r.ti[i].nm;have ba:=Tt dU (v:=v) (so:=so) (p:=p) gV;have hzn:dh r i=r.ti[i].nm:=by unfold dh;rw [mS gV]
   have VV:=JR r v so de k p i;rw [show dh r i=r.ti[i].nm by unfold dh;rw [mS gV],mS gV] at ba;generalize r.ti[i]=z at aC rL hhw g1 g2 ba hzn
   (refine Jq<|Jr<|Jv I<|bJ I I ae<|JL I bL I<|JI I<|JA I<|Jn<|Jd I fun az=>Jk<|Jq<|J0<|Jr<|bJ I I ae<|JL I bL I<|Jv I<|ab (fT cq az) I<|ab (iO (eZ.base aC I)) I<|Jz I I fun _ _=>ao (.of I) (.of I) .here I I (fx I I I) (bz I) ak<|Ji<|ab (cm cX) I<|Jv I<|bJ I I ae<|JL I .here I<|ai ef I (fun w' aB=>(yx _ (Mem.keeps aB)))<|ab (fN (.of I) (.of I)) I<|Ja I<|Ji<|Jv I<|JI I<|JC I<|Jv I<|iQ I I I I<|ab (bX (.of I) I) I<|Jv I<|aF I I inferInstance (fun hg br=>(bK (.of I) cX ak (by rfl))) I<|iQ I I I I<|aF I I inferInstance (fun hg br=>(aq (.of I) ae)) I<|aF I I inferInstance (fun hg br=>(ag (.bF hg I) (At.lit .here I))) I<|ep I I (fun hg=>(a7 (.of I) (.cons (.bF hg I) (.cons (.bF hg I) (.cons (.bF hg I) .nil))) inferInstance dZ)) I (fun hg w' aB=>(rL (Mem.keeps aB)))<|iQ I I I I<|aF I I inferInstance (fun hg br=>(dF (.bF hg I) (.bF hg I))) I<|ab (bX (.of I) I) I<|Ja I<|Ji<|Jv I<|bJ I I ae<|JL I .here I<|ai bb I (fun w' aB=>(hhw (Mem.keeps aB)))<|JH I<|Jv I<|iQ I I I I<|aF I I inferInstance (fun hg br=>(aP (.bF hg I))) I<|fk I I inferInstance (fun hg br=>(aP (.of I))) I<|fk I I inferInstance (fun hg br=>(dN (.bF hg I))) I<|fk I I inferInstance (fun hg br=>(aP (.bF hg I))) I<|fk I I inferInstance (fun hg br=>(aq (.of I) ae)) I<|fk I I inferInstance (fun hg br=>(ag (.bF hg I) (At.lit .here I))) I<|fk I I inferInstance (fun hg br=>(aP (.of I))) I<|fk I I inferInstance (fun hg br=>(lk (.bF hg I) (.bF hg I))) I<|fk I I inferInstance (fun hg br=>(gE hg (.bF hg I) I)) I<|aF I I inferInstance (fun hg br=>(jS hg (.bF hg I) I)) I<|ab (bX (.of I) I) I<|Jn<|nj I (fun az=>?_) fun az=>?_;refine Jq ?_;rotate_left;refine Jw<|Jj<|Jt<|Jg<|Jv I<|JB I (by omega)<|Ja I<|Jn ?_;rotate_right)
   ·have hz:(dG r r.po v so).step p i=true:=by
     rw [ba];obtain ⟨q0,hq⟩:=az;rw [q0];rcases hq with ⟨⟨q1,q2⟩,q3⟩ | ⟨q1,q2⟩
     ·have:p.isEmpty=true:=by rw [List.isEmpty_iff_length_eq_zero];omega
      rw [this,g1.1 q2,decide_eq_true q3];rfl
     ·rw [g2.1 (Zp.1 q1),decide_eq_true q2];simp
    rw [hz,if_pos I] at VV;have hlen:(gi (p.map (dh r))).length=p.length:=by rw [bG,Zd]
    have hn6:r.ti.length<=6:=dU.len.2.2;have Bi:=Wn.jI.2 ⟨hp,hz⟩;have D6:=FM (v:=v) (so:=so) (de:=de) hn6 k (p++[i]);have H7:=OA (v:=v) (so:=so) (de:=de) hn6 k p i;have X5:=abj (k:=k) (by omega);have hf4:i*7 ^ k<=6*117649:=Nat.mul_le_mul (by omega) X5;have hf5:(if (dG r r.po v so).fin p=k7 r de then [p.map (dh r)] else []).length<=1:=by split <;> simp
    have hv1:gz.length<=1000000:=by have:=hW.len;rw [Zg] at this;omega
    have uA:dh r i=z.nm:=hzn
    with_reducible refine KR.Ci 8 (j6 [(0,2),(2,6)]) (by kernel_rfl) ?_
    refine KR.vI (fun β=>(aG .nil I I I I)) (fun _ _ _=>rfl) I I ?_;refine KR.jK (fun β=>(aP (.of I))) qS I I ?_;dsimp only [Nat.zero_add,Nat.reduceAdd]
    with_reducible apply KR.z6 (jx:=0) (n0:=0) (xs:=[]) (news:=gi (p.map (dh r))) (Vx:=fun β=>.slice (some ⟨fu (β 0),0,none⟩) 0 0) (Vy:=fun _=>.slice a4 p.length eW) (Ax:=fun β=>[bE (fu (β 0)) (.cells #[] 9 (0,0))]) (B:=[])
    case hB=>rfl
    case hS=>rfl
    case hrow=>
     rintro β w' fp ⟨f1,f2,e,⟨h,h'⟩,h0⟩;obtain rfl:f2=[]:=h0;rw [e,h];exact ⟨I,I,.inr ⟨fu (β 0),0,#[],I,h',Zy _,Zi _,I,I⟩⟩
    case htk=>exact qh I I
    case hti=>rfl
    case h0=>rfl
    case hwx=>kernel_rfl
    case hx=>exact fun β=>.of I
    case hy=>exact fun β=>.of I
    case hsrc=>exact fun β w' hb=>Rd.keeps hl hb.mem.keeps
    case h1=>exact vi _
    case hz=>rfl
    case hsz=>rfl
    case hb0=>rfl
    case hb=>rw [hlen];omega
    case hd=>rfl
    rw [<- oU,hlen,ZD,Za];dsimp only [Nat.reduceAdd];refine KR.jK (fun β=>(aq (.of I) ae)) qS I I ?_;refine KR.jK (fun β=>(ag (.of I) (At.lit .here I))) qS I I ?_;refine KR.vI (fun β=>(aG (.o I .nil) I I I I)) (fun _ _ _=>rfl) I I ?_;dsimp only [Nat.reduceAdd]
    with_reducible apply KR.z6 (jx:=2) (n0:=p.length) (xs:=aR (p.map (dh r))) (news:=[[.string z.nm]]) (Vx:=fun β=>β 2) (Vy:=fun β=>.slice (some ⟨fu (β 5),0,none⟩) 1 1) (Ax:=fun β=>[row 9 1 (β 2) p.length (aR (p.map (dh r)))]) (B:=[5])
    case hB=>kernel_rfl
    case hS=>rfl
    case hrow=>exact fun β w' fp ⟨f1,f2,e,h,h0⟩=>by obtain rfl:f2=[]:=h0;rw [e,ZJ];exact h
    case htk=>exact qh I I
    case hti=>rfl
    case h0=>rfl
    case hwx=>kernel_rfl
    case hx=>exact fun β=>.of I
    case hy=>exact fun β=>.of I
    case hsrc=>
     intro β w' hb;have m6:=hb.at 5 (by simp) (s:=⟨fun β=>.slice (some ⟨fu (β 5),0,none⟩) 1 1,fun β=>[bE (fu (β 5)) (.cells #[.string z.nm] 9 (0,0))]⟩) (by kernel_rfl)
     dsimp only [Zb,Za] at m6;exact Mem.dz m6 (by exact .here) I I
    case h1=>
     intro r' N8 u hu;simp only [ZL] at N8;subst N8;simp only [ZL] at hu;subst hu;rfl
    case hz=>rfl
    case hsz=>rfl
    case hb0=>rfl
    case hb=>simp only [Z9];omega
    case hd=>rfl
    rw [show ([[Value.string z.nm]]:List (List Value)).flatten=[.string z.nm] from I,show ([[Value.string z.nm]]:List (List Value)).length=1 from I];dsimp only [Nat.reduceAdd];have hsv:aR (p.map (dh r))++[.string z.nm]=aR ((p++[i]).map (dh r)):=by rw [Zv,eT,List.map_singleton,uA];rfl
    rw [hsv]
    with_reducible apply KR.jK (F:=fun β=>β 6)
    case hr=>(intro β;exact cM (.of I))
    case hi=>exact fun β β' h=>by simp only [h 6 (by kernel_rfl)]
    case hd=>rfl
    case hn=>rfl
    refine KR.NO fun β=>?_;have w9:p.length+1=(p++[i]).length:=by rw [Zg];rfl
    rw [w9];change Tr _ _ _ [bE (fu (β 5)) (.cells #[.string z.nm] 9 (0,0)),row 9 1 (β 6) (p++[i]).length (aR ((p++[i]).map (dh r))),bE _ (.cells #[.string z.nm,.q z.fr,.q z.to] 122 (0,0)),row 32 1 ov gz.length gz,iG 9 vs xs,JQ b5 r (.slice a1 r.sr.length eo) d (.slice a3 r.ti.length dT) p'] _;generalize β 6=mv;generalize fu (β 5)=b6
    with_reducible refine wU (by kernel_rfl) ?_
    refine aM (E:=9) (sz:=1) (v:=mv) (by exact Take.there .here) fun ma mc e=>?_;subst e
    (refine Jt<|Jg<|Jv I<|ab (cm eu) I<|Jv I<|Jv I<|Jv I<|Jv I ?_)
    with_reducible apply jH
    case hr=>exact DW
    case hd=>rfl
    case ht=>exact bB.nil
    case hc=>
     intro w1 fp aT _ hs1;obtain rfl:fp=[]:=hs1;have hrd:Rd w1 (.slice ma (p++[i]).length mc) 1 (gi ((p++[i]).map (dh r))):=dS (E:=9) aT (by exact Take.there .here) (by rw [Zd]);exact ih (p:=p++[i]) (h.keeps aT.keeps) Bi (by rw [Zg,Z9];omega) hrd
    rintro ⟨RS,oT,Tc,VM⟩ Yl
    try dsimp only [id_eq,Zb,Za] at Yl ⊢
    have hv2:oT.length<=117649:=by have:=Yl.len;omega
    refine F2 (p:=∀ u∈oT,u.oneCell'=true) (fun w' aB u hu=>by
     obtain ⟨j,hj,rfl⟩:=Zw hu;have Og:=Yl.len;rcases Yl.rd j _ _ (Zc hj) (Zc (by omega)) with ⟨e,_⟩ | ⟨m,e1,e2⟩
     ·rw [e];rfl
     ·exact HK (E:=9) (vs:=Tc) (xs:=VM) aB (by exact Take.there .here) e1 e2) fun fo=>?_
    refine ku (E:=9) (vs:=vs) (xs:=xs) kr (v:=.slice ma (p++[i]).length mc) (x:=aR ((p++[i]).map (dh r))) (n:=(p++[i]).length) cX (by rw [dj,Zd]) hW.pl ?_;refine Cf (E:=9) (vs:=vs++[.slice ma (p++[i]).length mc]) (ws:=Tc) (by exact .here) (by exact Take.there .here) (by simp only [Zg,Z9,hW.pl]) ?_;have hWn:=mg.app hW Yl;rw [Zh,<- VV] at hWn
    with_reducible apply eX (n:=gz.length) (xs:=gz) (news:=oT.map fun u=>[u])
    case hx=>exact Is.of I
    case hy=>exact Is.of I
    case ht=>exact dD
    case hsrc=>exact fun w' aB=>aB.K9 (E:=32) (n:=oT.length) (ys:=oT) (v:=RS) (by exact Take.there .here) I
    case h1=>
     intro r' N8 u hu;obtain ⟨y,hy,rfl⟩:=Zx.1 N8;simp only [ZL] at hu;subst hu;exact fo _ hy
    case hz=>rfl
    case hsz=>rfl
    case hb0=>rfl
    case hb=>rw [Zd];omega
    case hd=>rfl
    intro v';rw [zx,Zd];refine Ja I<|Jx<|Jj<|Jt<|Jg<|Jv I<|JB I (by omega)<|Ja I<|Jn ?_;have IV:gz.length+oT.length=(gz++oT).length:=(Zg).symm;rw [IV]
    with_reducible apply aH (i+1,v',gz++oT,vs++[.slice ma (p++[i]).length mc]++Tc,xs++[aR ((p++[i]).map (dh r))]++VM) ⟨ZX gV,hWn⟩ (show r.ti.length-(i+1)<r.ti.length-i by omega)
    case hs1=>exact bS
    case ht=>exact iP
   have hz:(dG r r.po v so).step p i=false:=by
    rw [ba];rcases az with q | ⟨q1,q2⟩
    ·rw [q];rfl
    ·cases eb:gL r.po v z.nm
     ·have q3:¬ z.fr=(dG r r.po v so).fin p:=q2.resolve_left fun q=>by rw [g1.1 q] at eb;cases eb
      rw [decide_eq_false q3];simp
     ·have q4:¬ p=[]\/¬ j4 r v z.nm=so:=q1.imp (fun q=>q.elim (fun q0 e=>by rw [e] at q0;exact q0 I) (fun q0=>absurd (g1.2 eb) q0)) id
      rcases q4 with q | q
      ·have:p.isEmpty=false:=by cases p with | nil=>exact absurd I q | cons=>rfl
       rw [this];simp
      ·rw [decide_eq_false q];simp
   rw [hz,if_neg (by decide),ZJ] at VV
   with_reducible apply aH (i+1,ov,gz,vs,xs) ⟨ZX gV,(show mg gz (_++S7 r v so de k p (i+1)) _ _ vs xs by rw [VV];exact hW)⟩ (show r.ti.length-(i+1)<r.ti.length-i by omega)
   case hs1=>exact bS
   case ht=>exact iP
  obtain rfl:i=r.ti.length:=by omega
  (refine Jq<|Jr<|Jv I<|bJ I I ae<|JL I bL I<|JI I<|JA I<|Jn<|Jc I fun az=>Jp<|Jl<|Jo<|Jt<|Jr<|Jv I<|Ja I<|Jn<|Je ?_)
  with_reducible first|apply aO|apply aQ
  case he=>exact dB I I
  case hR=>
   intro w' aB;exact aD (ov,gz,vs,xs) (by rw [JU];exact hW) (by exact .h2 .nil) aB I
theorem xK {α:Type} (lt:α->α->Bool):∀ (l:List α) (b x:α),kh lt b (l++[x])=if lt x (kh lt b l) then x else kh lt b l
 | [],_,_=>rfl
 | y::l,b,x=>by rw [Zb,kh,kh,xK lt l]
def TK (r:Ro) (v:Int) (so de:ByteArray):List ByteArray:=((lf r v so de).getD []).map (dh r)
def Pt (r:Ro) (v:Int) (so de:ByteArray):Int:=if (lf r v so de).isNone then 18 else 0
def S2 (x:Value) (L:List ByteArray) (vs:List Value) (xs:List (List Value)):Prop:=(x=.z/\L=[])\/∃ j:Nat,vs[j]? = some x/\xs[j]? = some (aR L)
theorem Mem.Gi {c:Cx} {hs hs':List bd} (hm:Mem c hs w) (ht:Take hs (iG 9 vs xs) hs') (h:S2 x L vs xs):Rd w x 1 (gi L):=by
 rcases h with ⟨e,e2⟩ | ⟨j,h1,h2⟩
 ·subst e e2;exact Rd.nil w 1
 ·have:=hm.wy ht h1 h2;rwa [show (aR L).map (fun u=>[u])=gi L by unfold aR gi;rw [ZaE];rfl] at this
set_option maxHeartbeats 2000000 in
theorem Wv {s d t p':Value} (v:Int) (so de:ByteArray) {w:World} (h:RR w r s d t p') (hb:gy r=0) (hs:so∈cK r) (hd:de∈cE r) (jw:(cQ r).Nodup) :
  a8 T_ 73 [RA r s d t p',.q v,.string so,.string de] w [] (fun y:Value×List Value×List (List Value)=>S2 y.1 (TK r v so de) y.2.1 y.2.2) (fun y=>.tuple #[y.1,.q (Pt r v so de)]) (fun y=>[iG 9 y.2.1 y.2.2]):=by
 obtain ⟨h1,h2,h3,h4⟩:=h.one;have dU:=A2 hb;unfold RA;refine aS func73 I I ?_
 (refine Jr<|Jy I I fun _ _=>Ja I<|Ja I<|Ji<|ab (cm .here) I<|Jv I<|Jv I<|Jv I ?_)
 rename_i b4 tS;refine JN DW I (fun w1 aT=>JZ (s:=s) (d:=d) (t:=t) (p':=p') v so de hb hs hd jw (r.ti.length+1) (p:=[]) (h.keeps aT.keeps) (Wn.nW _) I (show Rd w1 (.z) 1 (gi []) from Rd.nil w1 1)) ?_;rintro ⟨ov,gz,vs,xs⟩ hW
 try dsimp only [id_eq,Zb,Za] at hW ⊢
 cases e:(dG r r.po v so).all (k7 r de) (r.ti.length+1) [] with
 | nil =>
  have eP:lf r v so de=none:=by unfold lf;rw [show (dG r r.po v so).all (k7 r de) ((dG r r.po v so).n+1) []=[] from e]
  have hz:gz.length=0:=by rw [hW.len];unfold JV;rw [e];rfl
  have e1:Pt r v so de=18:=by unfold Pt;rw [eP];rfl
  have e2:TK r v so de=[]:=by unfold TK;rw [eP];rfl
  refine aM (v:=ov) (by exact .here) fun oa oc e0=>?_;subst e0;refine Ja I<|Jn<|Jq<|Jr<|Jv I<|JI I<|JC I<|Jn<|Jd I fun az=>Jr<|Ja I<|Ja I<|Jn<|Ju ?_
  with_reducible first|apply aO|apply aQ
  case he=>exact gH I I I
  case hR=>
   intro w' aB;exact aD (.z,vs,xs) (.inl ⟨I,e2⟩) (by exact .cons (.there .here) .nil) aB (by rw [e1])
 | cons a l =>
  have hN:JV r v so de (r.ti.length+1) []=(a::l).map fun q=>q.map (dh r):=by unfold JV;rw [e]
  have IV:gz.length=l.length+1:=by rw [hW.len,hN];simp
  have eO:∀ q∈a::l,∀ i∈q,i<r.ti.length:=fun q hq=>Wn.sq (Wn.vu (Wn.nW _) (e ▸ hq)).1
  have eP:lf r v so de=some (kh (dG r r.po v so).lt a l):=by unfold lf;rw [show (dG r r.po v so).all (k7 r de) ((dG r r.po v so).n+1) []=a::l from e]
  have e1:Pt r v so de=0:=by unfold Pt;rw [eP];rfl
  have e2:TK r v so de=(kh (dG r r.po v so).lt a l).map (dh r):=by unfold TK;rw [eP];rfl
  have hIn:∀ (i:Nat) (hi:i<gz.length),S2 gz[i] (((a::l)[i]'(by rw [ZA];omega)).map (dh r)) vs xs:=fun i hi=>by
   have hq:=hW.rd i gz[i] (((a::l)[i]'(by rw [ZA];omega)).map (dh r)) (Zc hi) (by rw [hN,ZE,Zc (by rw [ZA];omega)];rfl);rcases hq with ⟨q1,q2⟩ | q
   ·exact .inl ⟨q1,q2⟩
   ·exact .inr q
  rw [e1,e2];clear hW e1 e2 eP hN;refine dy (E:=32) (sz:=1) (v:=ov) (by exact .here) (by omega) fun ga ca cur e1 oD Dd C9 Fb=>?_;subst e1;unfold maxLen at Dd;have iy:∀ (i:Nat) (hi:i<gz.length),(gz++cur)[i*1]? = some gz[i]:=fun i hi=>by rw [Zar,ZB hi];exact Zc hi
  have hI0:=hIn 0 (by omega);rw [List.getElem_cons_zero] at hI0;have c0:(gz++cur)[0]? = some gz[0]:=iy 0 (by omega)
  (refine Ja I<|Jn<|Jq<|Jr<|Jv I<|JI I<|JC I<|Jn<|Jc I fun az=>Jk<|Jr<|Jv I<|ab (an (.of I) (.of I) I (by omega) (by omega) aW) I<|ab (ag (.of I) (At.mz .here c0)) I<|Ja I<|Jn<|Jq<|Jr<|Ja I<|Jn<|J0 ?_)
  refine aV (ι:=Nat×Value×List Nat) (fun y=>1<=y.1/\y.1<=gz.length/\y.2.2=kh (dG r r.po v so).lt a (l.take (y.1-1))/\S2 y.2.1 (y.2.2.map (dh r)) vs xs) (fun y=>[(12,.q (y.1:Nat)),(11,y.2.1),(10,.w ga gz.length ca),(1,.q v),(4,.p b4)]) (fun y=>[bE ga (.cells (gz++cur).toArray 32 (0,0)),iG 9 vs xs,JQ b4 r s d t p']) (fun y=>gz.length-y.1) ?_ ?_
  ·with_reducible apply aI (1,gz[0],a) ⟨Zy _,by omega,I,hI0⟩
   case hs1=>exact bS
   case ht=>exact iP
  rintro ⟨i,bv,q⟩ ⟨Fc,hi,hq,hiB⟩;dsimp only at Fc hi hq hiB ⊢;by_cases aK:i<gz.length
  ·have c1:=iy i aK;have XY:=hIn i aK;have XQ:i-1<l.length:=by omega
   have Yf:(a::l)[i]'(by rw [ZA];omega)=l[i-1]:=by
    obtain ⟨j,rfl⟩:∃ j,i=j+1:=⟨i-1,by omega⟩
    rfl
   have XB:q∈a::l:=by
    rw [hq];have:=(mQ (lt:=(dG r r.po v so).lt) (fun {_ _ _}=>Wn.lt_trans) (fun {_ _}=>Wn.wN) (Wn.lt_irrefl _) (l.take (i-1)) a).1
    rcases ZS.1 this with h | h
    ·rw [h];exact Zu
    ·exact ZM _ (ZaM h)
   have V3:=PZ hb jw (v:=v) so (eO (l[i-1]) (ZM _ (Zj XQ))) (eO q XB);rw [Yf] at XY;have gQ:kh (dG r r.po v so).lt a (l.take i)=if (dG r r.po v so).lt l[i-1] q=true then l[i-1] else q:=by
    obtain ⟨j,rfl⟩:∃ j,i=j+1:=⟨i-1,by omega⟩;rw [Zl (by omega),xK,hq];rfl
   rw [<- V3] at gQ;generalize l[i-1]=x at XY V3 gQ;generalize gz[i]=xv at c1 XY;refine Jq<|Jr<|Jv I<|Jv I<|JI I<|JA I<|Jn<|Jd I fun az=>Jk<|Jq<|J0<|Jq ?_
   with_reducible refine cN 8 (by kernel_rfl) ?_
   (refine aA (cm bL) I ?_;refine gn I I ?_;refine gn I I ?_;refine gn I I ?_;refine aA (an (.of I) (.of I) I (by omega) az aW) I ?_;refine aA (ag (.of I) (At.mz .here c1)) I ?_;refine gn I I ?_;refine dp mi I (fun w' aB=>(LU v (RR.keeps h (Mem.keeps aB)) (Mem.Gi aB (.there .here) XY) (Mem.Gi aB (.there .here) hiB))) ?_)
   with_reducible refine cT ?_
   (refine Jn<|nj I (fun az=>?_) fun az=>?_;refine Jg<|Jv I<|Jv I<|ab (an (.of I) (.of I) I (by omega) (by assumption) aW) I ?_;refine ab (ag (.of I) (At.mz .here c1)) I ?_;refine Ja I<|Jx<|Jj<|Jt<|Jg<|Jv I<|JB I (by omega)<|Ja I<|Jn ?_;rotate_left;refine Jw<|Jj<|Jt<|Jg<|Jv I<|JB I (by omega)<|Ja I<|Jn ?_;rotate_right)
   ·rw [az,if_pos I] at gQ
    with_reducible apply aH (i+1,xv,x) ⟨Nat.le_succ_of_le Fc,ZX aK,(show x=kh (dG r r.po v so).lt a (l.take (i+1-1)) by rw [Zax];exact gQ.symm),XY⟩ (show gz.length-(i+1)<gz.length-i by omega)
    case hs1=>exact bS
    case ht=>exact iP
   ·rw [az,if_neg (by decide)] at gQ
    with_reducible apply aH (i+1,bv,q) ⟨Nat.le_succ_of_le Fc,ZX aK,(show q=kh (dG r r.po v so).lt a (l.take (i+1-1)) by rw [Zax];exact gQ.symm),hiB⟩ (show gz.length-(i+1)<gz.length-i by omega)
    case hs1=>exact bS
    case ht=>exact iP
  ·have jO:l.length<=i-1:=by omega
   rw [Zab jO] at hq;subst hq;refine Jq<|Jr<|Jv I<|Jv I<|JI I<|JA I<|Jn<|Jc I fun az=>Jp<|Jl<|Jo<|Jt<|Jr<|Jv I<|Ja I<|Ja I<|Jn<|Je ?_
   with_reducible first|apply aO|apply aQ
   case he=>exact gH I I I
   case hR=>
    intro w' aB;exact aD (bv,vs,xs) hiB (by exact .cons (.there .here) .nil) aB I
theorem tw (l:List fy) {i:Nat} (h:i<l.length):(iD l)[i]? = some [.string l[i].tk.de,l[i].v]:=j7 h
theorem Tm {L D:List Po} (e:yh r 6 L=D) {s d t p:Value} {w:World} {fp:List Nat} (jw:fp.Nodup) (hs:cr (hp w) (nQ (r.wp L) (s,d,t,p)) fp) (hf:jv (r.wp L)) (tO:0<=r.lv/\r.lv<=1000000):a8 T_ 169 [.agg #[.q r.lv,.q r.ma,s,d,t,p]] w fp (fun _:Value×Value×Value×Value=>True) (fun x=>.agg #[.q r.lv,.q r.ma,x.1,x.2.1,x.2.2.1,x.2.2.2]) (fun x=>nQ (r.wp D) x):=by
 have:=Tn jw hs hf tO;rw [Kk] at this;subst e;exact this
theorem T8 (r:Ro) (q:List Po) (a b:Po):ng (r.wp q) a b=ng r a b:=rfl
theorem GG (r:Ro) (q:List Po) (x:Po):∀ l,eJ (r.wp q) x l=eJ r x l
 | []=>rfl
 | b::l=>by rw [eJ,eJ,GG r q x l,T8]
theorem RJ {q:List Po} {s d t p:Value} {x:Po} (h:RR w (r.wp q) s d t p) (hf:jv (r.wp q)):a8 T_ 170 [.agg #[.q r.lv,.q r.ma,s,d,t,p],.agg #[.q x.lv,.string x.ou,.string x.ip]] w [] (fun _:Value×Value×Value×Value=>True) (fun y=>.agg #[.q r.lv,.q r.ma,y.1,y.2.1,y.2.2.1,y.2.2.2]) (fun y=>nQ (r.wp (eJ r x q)) y):=by
 have:=WI (x:=x) h hf;rw [GG] at this;exact this
noncomputable def YA {ι:Type} (f:ι->Value) (d:ι) (v:Value):ι:=open Classical in if h:∃ x,f x=v then h.choose else d
theorem Fg {ι:Type} {f:ι->Value} (hi:∀ x y,f x=f y->x=y) (d x:ι):∃ v,YA f d v=x:=⟨f x,by
 have h:∃ y,f y=f x:=⟨x,I⟩;unfold YA;rw [dif_pos h];exact hi _ _ h.choose_spec⟩
def QY (y:Value×List Value×List (List Value)):Value:=.agg #[y.1,.agg y.2.1.toArray,.agg (y.2.2.map fun l=>Value.agg l.toArray).toArray]
theorem uO:∀ {a b:List (List Value)},(a.map fun l=>Value.agg l.toArray)=(b.map fun l=>Value.agg l.toArray)->a=b
 | [],[],_=>rfl
 | [],_::_,h=>by simp at h
 | _::_,[],h=>by simp at h
 | x :: a, y :: b, h => by
  simp only [Z3,List.cons.injEq,Value.agg.injEq] at h;rw [uO h.2,show x=y from by have:=congrArg Array.toList h.1;simpa using this]
theorem MY (x y:Value×List Value×List (List Value)) (h:QY x=QY y):x=y:=by
 obtain ⟨a,b,c⟩:=x;obtain ⟨a',b',c'⟩:=y;unfold QY at h;injection h with h
 have h:=congrArg Array.toList h;simp only [List.cons.injEq,Value.agg.injEq] at h;obtain ⟨h1,h2,h3,_⟩:=h;have h2:=congrArg Array.toList h2;have h3:=congrArg Array.toList h3;simp only at h2 h3;rw [h1,h2,uO h3]
abbrev IA (L:List ByteArray):Type:={y:Value×List Value×List (List Value) // S2 y.1 L y.2.1 y.2.2}
def IA.some_ (L:List ByteArray):IA L:=⟨(.z,[.z],[aR L]),.inr ⟨0,I,I⟩⟩
noncomputable def Ig (L:List ByteArray):Value->IA L:=YA (fun y=>QY y.1) (IA.some_ L)
theorem QM (L:List ByteArray) (x:IA L):∃ v,Ig L v=x:=Fg (fun x y h=>Subtype.ext (MY _ _ h)) _ x
theorem At.yr {c:Cx} {hs hs':List bd} {b o n cap j k:Nat} (ht:Take hs (iG 9 vs xs) hs') (mN:S2 (.slice (some ⟨b,o,none⟩) n cap) L vs xs) (hj:j<L.length) (hk:k=o+j*1):At c hs b k (.string L[j]):=fun w hm=>by
 obtain ⟨a,iz,b',o',e,_,_,ha,hc⟩:=Mem.Gi hm ht mN;injection e with e1 e2 e3
 rw [ha (iE hj)] at e1;injection e1 with e1
 injection e1 with e4 e5
 have:=(hc j _ (fM hj)).2 0 _ I;rw [<- e4,<- e5] at this;subst hk;exact this
theorem S2.shape (h:Rd w x 1 (gi L)):∃ a cap,x=.slice a L.length cap/\(L≠[]->∃ b o,a=some ⟨b,o,none⟩):=by
 obtain ⟨a,cap,b,o,rfl,_,_,ha,_⟩:=h;rw [bG];exact ⟨a,cap,I,fun hl=>⟨b,o,ha (by cases L with | nil=>exact absurd I hl | cons x l=>simp [gi])⟩⟩
set_option maxHeartbeats 4000000 in
theorem Pc {s d t p kv:Value} {l:List fy} (h:RR w r s d t p) (gr:gy r=0) (hw:Rd w kv 2 (iD l)) (hM:te w l) (hT:IB r (bQ l)) :
  a8 T_ 50 [RA r s d t p,kv] w [] (fun _:Value×Value×Value×Value=>True) (fun x=>.tuple #[RA (gI r (bQ l)).1 x.1 x.2.1 x.2.2.1 x.2.2.2,.q (gI r (bQ l)).2.1,.q (gI r (bQ l)).2.2]) (fun x=>nQ (gI r (bQ l)).1 x):=by
 have dU:=A2 gr;have Wb:=vF gr;have tO:=dU.lim;have uE:=dU.len;have hpf:=lx dU dU.val;have hf:jv r:=⟨by omega,by omega,by omega,by omega⟩;have uA:(bQ l).length=l.length:=by unfold bQ;rw [Zd]
 have UM:=hT.B4;rw [uA] at UM;obtain ⟨h1,h2,h3,h4⟩:=h.one;have Dn:=h.de;obtain ⟨a2,c6,I6,IT,rfl,kd,eU,jV,ke⟩:=Dn;rw [cd] at *;obtain ⟨a,cp,b,o,rfl,dd,bO,ha,hc⟩:=hw;rw [dI] at *;unfold maxLen at bO eU;have acN:∀ (o:ByteArray) {w'},aJ [] w w'->aj T_ 56 [.agg #[.int .i64 r.lv,.int .i64 r.ma,s,.slice a2 r.de.length c6,t,p],.string o] w' (.int .i64 (bC (cE r) o)):=fun o _ hk=>sU o (h.keeps hk)
 have H9:∀ (v:Int) (o:ByteArray),o≠⟨#[]⟩->∀ {w'},aJ [] w w'->aj T_ 131 [.agg #[.q r.lv,.q r.ma,s,.slice a2 r.de.length c6,t,p],.q v,.string o] w' (.string (j4 r v o)):=fun v o ho _ hk=>by rw [<- vH gr v ho];exact qC v o ho (h.keeps hk)
 have nM:=C2 r l;unfold RA;refine aS func50 I I ?_;refine Jr<|Jy I I fun _ _=>Jz I I fun _ _=>Ja I<|Ja I<|Jn<|Jq<|Jr<|Ja I<|Jn<|J0 ?_;rename_i b2 rM b4 tS;refine aV (ι:=Nat) (fun i=>i<=l.length/\∀ j (hj:j<l.length),j<i->tN r l[j].tk=false) (fun i=>[(7,.q (i:Nat)),(1,.slice a l.length cp),(2,.p b2),(4,.p b4),(5,.q 0),(6,.q 0)]) (fun _=>[JQ b2 r s (.slice a2 r.de.length c6) t p,bE b4 (.cells #[.q 0,.q 0,.z,.z,.z,.z] 27 (0,0))]) (fun i=>l.length-i) ?_ ?_
 ·with_reducible apply aI (0:Nat) ⟨Zi _,fun j _ h=>absurd h (ZN j)⟩
  case hs1=>exact bS
  case ht=>exact iP
 rintro i ⟨hi,oB⟩;by_cases aK:i<l.length
 ·have cq:=ha (jM aK);have aC:=(hc i _ (tw l aK)).2;have Oe:=hT.de l[i].tk (ZY (Zj aK));obtain ⟨j0,uF,ej0,en0⟩:=SM Oe;have Qy:∀ {w'},aJ [] w w'->aj T_ 56 [.agg #[.int .i64 r.lv,.int .i64 r.ma,s,.slice a2 r.de.length c6,t,p],.string l[i].tk.de] w' (.int .i64 (j0:Nat)):=fun hk=>by rw [<- ej0];exact acN _ hk
  have hlB:tN r l[i].tk=r.de[j0].pr:=by unfold tN;rw [ej0,ZH,Zk,Zc uF];rfl
  have qI:=jV (iq uF);have cP:w.cell? ⟨I6,IT+j0*3+2,none⟩=some (.bool (tN r l[i].tk)):=by rw [hlB];exact (ke j0 _ (fR uF)).2 2 _ I
  have hfo:tN r l[i].tk=true->mL r (bQ l)=(i:Nat):=fun q=>by
   rw [nM];refine gP (fun j hj=>?_) aK q;rw [Zc (by omega)];exact oB j (by omega) hj
  have gQ:tN r l[i].tk=false->∀ j (hj:j<l.length),j<i+1->tN r l[j].tk=false:=fun q j hj tq=>by
   by_cases e:j=i
   ·subst e;exact q
   ·exact oB j hj (by omega)
  generalize tN r l[i].tk=bl at cP hfo gQ;generalize l[i].tk.de=de at aC Qy;have c0:w.cell? ⟨b,o+i*2,none⟩=some (.string de):=aC 0 _ I;refine Jq<|Jr<|Jv I<|Jv I<|JI I<|JA I<|Jn<|Jd I fun az=>Jk<|Jq<|J0<|Jq ?_
  with_reducible refine cN 12 (by kernel_rfl) ?_
  (refine lS I I ae<|aA (gX .here) I<|aA (cm .here) I<|gn I I<|gn I I<|aA (fT cq az) I<|lS I I ae<|aA (ag (.of I) (At.base c0 I)) I<|dp bb I (fun w' aB=>(Qy (Mem.keeps aB)))<|aA (an (.of I) (.of I) qI (by omega) (by omega) aW) I<|lS I I ae<|aA (ag (.of I) (At.base cP I)) I ?_)
  with_reducible refine cT ?_
  (refine Jn<|nj I (fun az=>?_) fun az=>?_;refine Jr<|ab (aU .nil ak) I<|Jv I<|ao (.of I) (.of I) (.there .here) I I (eF I I I I I I) (bz I) ak<|Ja I<|Ja I<|Jn<|Je<|Jm<|Jh<|Jh<|Jm<|Jh ?_;rotate_left;refine Jw<|Jj<|Jt<|Jg<|Jv I<|JB I (by omega)<|Ja I<|Jn ?_;rotate_right)
  ·have e0:=hfo az;have e1:gI r (bQ l)=(Ro.nil,((i:Nat):Int),31):=by unfold gI;rw [if_pos (by omega),e0]
   rw [e1];dsimp only;refine aN 118 2 ?_;refine aN 88 3 ?_;refine aN 122 3 ?_;refine aN 180 3 ?_
   with_reducible first|apply aO|apply aQ
   case he=>exact im I inferInstance I dD ak (by rfl) (by rfl) (by rfl)
   case hR=>
    intro w' aB;exact aD (.z,.z,.z,.z) trivial (by exact .cons cX (.cons bL (.cons (.there .here) (.h1 .nil)))) aB I
  ·with_reducible apply aH (i+1) ⟨ZX aK,gQ (by simpa using az)⟩ (show l.length-(i+1)<l.length-i by omega)
   case hs1=>exact bS
   case ht=>exact iP
 have e:i=l.length:=by omega
 subst e;have Yr:¬ 0<=mL r (bQ l):=by
  rw [nM,fS fun j hj=>by rw [Zc hj];exact oB j hj hj]
  omega
 clear oB aK hi nM;refine Jq<|Jr<|Jv I<|Jv I<|JI I<|JA I<|Jn<|Jc I fun az=>Jp<|Jl<|Jo<|Jt<|Jr<|ab (cm .here) I ?_;refine JN bM I (fun w1 aT=>Gm (h.keeps aT.keeps) hf) ?_;rintro ⟨s1,d1,t1,p1⟩ _;unfold nQ;dsimp only [Zb,Za];unfold RA;refine aM (E:=118) (sz:=2) (v:=s1) (by exact .here) fun D3 D1 e3=>?_;subst e3;refine aM (E:=88) (sz:=3) (v:=d1) (by exact Take.there .here) fun da1 dc1 e3=>?_;subst e3;refine aM (E:=122) (sz:=3) (v:=t1) bL fun ta1 tc1 e3=>?_;subst e3;refine aM (E:=180) (sz:=3) (v:=p1) cX fun pa1 pc1 e3=>?_;subst e3
 (refine Jz I I fun _ _=>ao (.of I) (.of I) .here I I (eF I I I I I I) (bz I) ak<|Jn<|Jq<|Jr<|Ja I<|Jn<|J0 ?_)
 rename_i b8 hb8;have V5:∀ i,(iL r (bQ l) i).length<=r.po.length:=fun i=>by rw [je];exact ZV _ _
 refine aV (ι:=Nat×List Po×(Option Addr×Nat)×(Option Addr×Nat)×(Option Addr×Nat)×(Option Addr×Nat)) (fun y=>y.1<=l.length/\y.2.1=iL r (bQ l) y.1) (fun y=>[(9,.q (y.1:Nat)),(8,.p b8),(1,.slice a l.length cp),(2,.p b2),(4,.p b4)]) (fun y=>[row 118 2 (.slice y.2.2.1.1 r.sr.length y.2.2.1.2) r.sr.length (ko r.sr),row 88 3 (.slice y.2.2.2.1.1 r.de.length y.2.2.2.1.2) r.de.length (jt r.de),row 122 3 (.slice y.2.2.2.2.1.1 r.ti.length y.2.2.2.2.1.2) r.ti.length (kz r.ti),row 180 3 (.slice y.2.2.2.2.2.1 (y.2.1).length y.2.2.2.2.2.2) (y.2.1).length (gl (y.2.1)),JQ b8 r (.slice y.2.2.1.1 r.sr.length y.2.2.1.2) (.slice y.2.2.2.1.1 r.de.length y.2.2.2.1.2) (.slice y.2.2.2.2.1.1 r.ti.length y.2.2.2.2.1.2) (.slice y.2.2.2.2.2.1 (y.2.1).length y.2.2.2.2.2.2),JQ b2 r s (.slice a2 r.de.length c6) t p,bE b4 (.cells #[.q 0,.q 0,.z,.z,.z,.z] 27 (0,0))]) (fun y=>l.length-y.1) ?_ ?_
 ·with_reducible apply aI (0,r.po,(D3,D1),(da1,dc1),(ta1,tc1),(pa1,pc1)) ⟨Zi _,I⟩
  case hs1=>exact bS
  case ht=>exact iP
 rintro ⟨i,L,⟨Pe,O8⟩,⟨Q9,Q8⟩,⟨OV,OR⟩,⟨PE,PC⟩⟩ ⟨hi,hL⟩;dsimp only at hi hL ⊢;by_cases aK:i<l.length
 ·have cq:=ha (jM aK);have aC:=(hc i _ (tw l aK)).2;have gN:=Zj aK;have sN:=hM _ gN;have IY:(bQ l).getD i Tk.zero=l[i].tk:=by unfold bQ;rw [Zk,ZE,Zc aK];rfl
  have V3:=hT.lv l[i].tk (ZY gN);have Oe:=hT.de l[i].tk (ZY gN);have gq:l[i].tk.de≠⟨#[]⟩:=Wb.ne (.inr (.inl Oe));have Bn:iL r (bQ l) (i+1)=kY r l[i].tk l[i].tk.so.length L:=by rw [iL,IY,hL]
  have hdi:L.length<=r.po.length:=by rw [hL];exact V5 i
  have Ya:∀ k,(kY r l[i].tk k L).length<=r.po.length:=fun k=>ZQ (by rw [lI];exact ZV _ _) hdi
  generalize hti:l[i]=ti at *;obtain ⟨tk,tv⟩:=ti;dsimp only at *;obtain ⟨sa,IL,sb,O4,rfl,GJ,sE,Qm,Ql⟩:=sN;rw [bG] at *;unfold maxLen at sE;have c0:w.cell? ⟨b,o+i*2,none⟩=some (.string tk.de):=aC 0 _ I;have c1:w.cell? ⟨b,o+i*2+1,none⟩=some (.slice sa tk.so.length IL):=aC 1 _ I;refine Jq<|Jr<|Jv I<|Jv I<|JI I<|JA I<|Jn<|Jd I fun az=>Jk<|Jq<|J0<|Jr<|Ja I<|Jn<|J0 ?_;refine aV (ι:=Nat×List Po×(Option Addr×Nat)×(Option Addr×Nat)×(Option Addr×Nat)×(Option Addr×Nat)) (fun y=>y.1<=tk.so.length/\y.2.1=kY r tk y.1 L) (fun y=>[(10,.int .i64 (y.1:Nat)),(9,.int .i64 (i:Nat)),(8,.pointer (some ⟨b8,0,none⟩)),(1,.slice a l.length cp),(2,.pointer (some ⟨b2,0,none⟩)),(4,.pointer (some ⟨b4,0,none⟩))]) (fun y=>[row 118 2 (.slice y.2.2.1.1 r.sr.length y.2.2.1.2) r.sr.length (ko r.sr),row 88 3 (.slice y.2.2.2.1.1 r.de.length y.2.2.2.1.2) r.de.length (jt r.de),row 122 3 (.slice y.2.2.2.2.1.1 r.ti.length y.2.2.2.2.1.2) r.ti.length (kz r.ti),row 180 3 (.slice y.2.2.2.2.2.1 (y.2.1).length y.2.2.2.2.2.2) (y.2.1).length (gl (y.2.1)),JQ b8 r (.slice y.2.2.1.1 r.sr.length y.2.2.1.2) (.slice y.2.2.2.1.1 r.de.length y.2.2.2.1.2) (.slice y.2.2.2.2.1.1 r.ti.length y.2.2.2.2.1.2) (.slice y.2.2.2.2.2.1 (y.2.1).length y.2.2.2.2.2.2),JQ b2 r s (.slice a2 r.de.length c6) t p,bE b4 (.cells #[.int .i64 0,.int .i64 0,.slice none 0 0,.slice none 0 0,.slice none 0 0,.slice none 0 0] 27 (0,0))]) (fun y=>tk.so.length-y.1) ?_ ?_
  ·with_reducible apply aI (0,L,(Pe,O8),(Q9,Q8),(OV,OR),(PE,PC)) ⟨Zi _,I⟩
   case hs1=>exact bS
   case ht=>exact iP
  rintro ⟨k,L2,⟨IN,IM⟩,⟨I5,I4⟩,⟨IK,IJ⟩,⟨IQ,IP⟩⟩ ⟨hk,qu⟩;dsimp only at hk qu ⊢;by_cases nM:k<tk.so.length
  ·have Bg:=Qm (iE nM);have Bf:w.cell? ⟨sb,O4+k*1,none⟩=some (.string tk.so[k]):=(Ql k _ (fM nM)).2 0 _ I;have iy:tk.at k=tk.so[k]:=by unfold Tk.at;rw [Zk,Zc nM];rfl
   have hdk:=Ya k;rw [<- qu] at hdk;have hs2:kY r tk (k+1) L=if lH r tk k then Hl r (k:Nat) tk.de L2 else L2:=by rw [kY,<- qu];rfl
   have X9:lH r tk k=(!decide (tk.so[k]=⟨#[]⟩)&&!decide (tk.so[k]=j4 r (k:Nat) tk.de)):=by unfold lH;rw [iy]
   have rL:∀ {w'},aJ [] w w'->aj T_ 131 [.agg #[.q r.lv,.q r.ma,s,.slice a2 r.de.length c6,t,p],.q (k:Nat),.string tk.de] w' (.string (j4 r (k:Nat) tk.de)):=fun hk=>H9 _ _ gq hk
   generalize j4 r (k:Nat) tk.de=ck at *;generalize tk.so[k]=sk at *
   (refine Jq<|Jr<|Jv I<|bJ I I ae<|JL I eu I<|JA I<|Jn<|Jd I fun az=>Jk<|Jq<|J0<|Jr<|Jv I<|Jv I<|ab (an (.of I) (.of I) cq (by omega) (by assumption) aW) I<|bJ I I ae<|ab (ag (.of I) (At.base c1 I)) I<|Jv I<|ab (an (.of I) (.of I) Bg (by omega) (by omega) aW) I<|ab (ag (.of I) (At.base Bf I)) I<|Ja I<|Jn<|Jq ?_)
   with_reducible refine cN 14 (by kernel_rfl) ?_
   (refine gn I I<|aA (fN (.of I) (.of I)) I<|gn I I<|bN I I inferInstance (fun hg br=>(aP (.of I))) I<|bN I I inferInstance (fun hg br=>(bK (.of I) eu ak (by rfl))) I<|bN I I inferInstance (fun hg br=>(aP (.of I))) I<|bN I I inferInstance (fun hg br=>(aP (.of I))) I<|bN I I inferInstance (fun hg br=>(aP (.of I))) I<|bN I I inferInstance (fun hg br=>(an (.bF hg I) (.bF hg I) cq (by omega) (by assumption) aW)) I<|bN I I inferInstance (fun hg br=>(aq (.bF hg I) ae)) I<|bN I I inferInstance (fun hg br=>(ag (.bF hg I) (At.base c0 I))) I<|oy I I (fun hg=>(a7 (.of I) (.cons (.bF hg I) (.cons (.bF hg I) (.cons (.bF hg I) .nil))) inferInstance dZ)) I (fun hg w' aB=>(rL (Mem.keeps aB)))<|bN I I inferInstance (fun hg br=>(fN (.bF hg I) (.bF hg I))) I<|aA (bX (.of I) I) I ?_)
   with_reducible refine cT ?_
   (refine Jn<|nj I (fun az=>?_) fun az=>?_;rotate_left;refine Jw<|Jj<|Jt<|Jg<|Jv I<|JB I (by omega)<|Ja I<|Jn ?_;rotate_right)
   ·obtain ⟨q1,q2⟩:sk≠⟨#[]⟩/\sk≠ck:=by simpa using az
    have yB:lH r tk k=true:=by rw [X9,decide_eq_false q1,decide_eq_false q2];rfl
    rw [yB,if_pos I] at hs2
    with_reducible refine dE 8 (by kernel_rfl) ?_
    (refine au (fun β=>(bK (.of I) dD ak (by rfl))) bh I<|au (fun β=>(aP (.of I))) bh I<|au (fun β=>(aP (.of I))) bh I<|au (fun β=>(aP (.of I))) bh I<|au (fun β=>(an (.of I) (.of I) cq (by omega) (by assumption) aW)) bh I<|au (fun β=>(aq (.of I) ae)) bh I<|au (fun β=>(ag (.of I) (At.base c0 I))) bh I ?_)
    dsimp only [Nat.zero_add,Nat.reduceAdd]
    with_reducible apply eB (ι:=Value×Value×Value×Value) (Φ:=fun _=>True) (val:=fun x=>.agg #[.q r.lv,.q r.ma,x.1,x.2.1,x.2.2.1,x.2.2.2]) (own:=fun x=>nQ (r.wp (Hl r (k:Nat) tk.de L2)) x) (g:=g4) (B:=[]) (args:=fun _=>[.agg #[.q r.lv,.q r.ma,.slice IN r.sr.length IM,.slice I5 r.de.length I4,.slice IK r.ti.length IJ,.slice IQ (L2).length IP],.q (k:Nat),.string tk.de])
    case hg=>exact pJ
    case hB=>rfl
    case hr=>exact fun β=>a7 (.of I) ((.o I (.o I (.o I .nil)))) inferInstance I
    case hd=>rfl
    case hc=>exact fun β w' hb=>FV (r:=r.wp L2) (k:Nat) tk.de (RR.wp (r:=r) (po:=L2) (cG hb.mem (by exact .here) I) (cI hb.mem (by exact Take.there .here) I) (cF hb.mem bL I) (ct hb.mem cX I)) ⟨hf.1,hf.2.1,hf.2.2.1,(show L2.length<=1000000 by omega)⟩
    refine eS fun β=>?_;unfold nQ Ro.wp;dsimp only [dY,Za,Zb,List.append_eq,Nat.reduceAdd];generalize g4 (β 7)=y;obtain ⟨s5,d5,t5,p5⟩:=y;clear β;dsimp only;generalize Hl r (k:Nat) tk.de L2=L3 at hs2 ⊢;refine aM (E:=118) (sz:=2) (v:=s5) (by exact .here) fun RL RK e3=>?_;subst e3;refine aM (E:=88) (sz:=3) (v:=d5) (by exact Take.there .here) fun SO SN e3=>?_;subst e3;refine aM (E:=122) (sz:=3) (v:=t5) bL fun RH RG e3=>?_;subst e3;refine aM (E:=180) (sz:=3) (v:=p5) cX fun RQ RP e3=>?_;subst e3;refine dM [row 118 2 (.slice RL r.sr.length RK) r.sr.length (ko r.sr),row 88 3 (.slice SO r.de.length SN) r.de.length (jt r.de),row 122 3 (.slice RH r.ti.length RG) r.ti.length (kz r.ti),row 180 3 (.slice RQ (L3).length RP) (L3).length (gl (L3)),JQ b8 r (.slice IN r.sr.length IM) (.slice I5 r.de.length I4) (.slice IK r.ti.length IJ) (.slice IQ (L2).length IP),JQ b2 r s (.slice a2 r.de.length c6) t p,bE b4 (.cells #[.int .i64 0,.int .i64 0,.slice none 0 0,.slice none 0 0,.slice none 0 0,.slice none 0 0] 27 (0,0))] (by exact .h4 (.cons dD (.cons dD (.cons dD .nil)))) ?_;refine bI (rs:=[8]) (by kernel_rfl) (by simp) (Zq.2 ⟨?_,fun _ h=>absurd h Zo⟩);refine bP I ?_
    (refine ao (.of I) (.of I) dD I I (eF I I I I I I) (bz I) ak<|Jn ?_)
    with_reducible refine cu (by kernel_rfl) ?_
    refine Jj<|Jt<|Jg<|Jv I<|JB I (by omega)<|Ja I<|Jn ?_
    with_reducible apply aH (k+1,L3,(RL,RK),(SO,SN),(RH,RG),(RQ,RP)) ⟨ZX nM,hs2.symm⟩ (show tk.so.length-(k+1)<tk.so.length-k by omega)
    case hs1=>exact bS
    case ht=>exact iP
   ·have yB:lH r tk k=false:=by
     rw [X9];simp only [ne_eq,Zp,decide_eq_true_eq,Classical.not_and_iff_not_or_not] at az;rcases az with e | e
     ·rw [decide_eq_true e];rfl
     ·rw [decide_eq_true e];simp
    rw [yB,if_neg (by decide)] at hs2
    with_reducible apply aH (k+1,L2,(IN,IM),(I5,I4),(IK,IJ),(IQ,IP)) ⟨ZX nM,hs2.symm⟩ (show tk.so.length-(k+1)<tk.so.length-k by omega)
    case hs1=>exact bS
    case ht=>exact iP
  ·have e:k=tk.so.length:=by omega
   subst e
   (refine Jq<|Jr<|Jv I<|bJ I I ae<|JL I eu I<|JA I<|Jn<|Jc I fun az=>Jp<|Jl<|Jo<|Jj<|Jt<|Jg<|Jv I<|JB I (by omega)<|Ja I<|Jn ?_)
   with_reducible apply aH (i+1,L2,(IN,IM),(I5,I4),(IK,IJ),(IQ,IP)) ⟨ZX aK,(qu.trans Bn.symm)⟩ (show l.length-(i+1)<l.length-i by omega)
   case hs1=>exact bS
   case ht=>exact iP
 have e:i=l.length:=by omega
 subst e;have hLd:yh r 6 L=nO r (bQ l):=by rw [hL,<- uA];exact M6 dU _
 have D8:=V5 l.length;rw [<- hL] at D8;clear V5 hL aK hi;refine Jq<|Jr<|Jv I<|Jv I<|JI I<|JA I<|Jn<|Jc I fun az=>Jp<|Jl<|Jo<|Jt<|Jr<|ab (cm dD) I ?_
 with_reducible apply gA (As:=[row 118 2 (.slice Pe r.sr.length O8) r.sr.length (ko r.sr),row 88 3 (.slice Q9 r.de.length Q8) r.de.length (jt r.de),row 122 3 (.slice OV r.ti.length OR) r.ti.length (kz r.ti),row 180 3 (.slice PE (L).length PC) (L).length (gl (L))])
 case hr=>exact bM
 case hd=>rfl
 case ht=>exact iP
 case hc=>
  intro w1 Bv aT uV hs1 Dt lp;exact Tm (r:=r) (L:=L) hLd (s:=.slice Pe r.sr.length O8) (d:=.slice Q9 r.de.length Q8) (t:=.slice OV r.ti.length OR) (p:=.slice PE (L).length PC) uV hs1 ⟨hf.1,hf.2.1,hf.2.2.1,(show L.length<=1000000 by omega)⟩ ⟨by omega,by omega⟩
 rintro ⟨s1,d1,t1,p1⟩ _;unfold nQ Ro.wp;dsimp only [Zb,Za];obtain ⟨D0,hD0⟩:∃ D0,D0=nO r (bQ l):=⟨_,rfl⟩;rw [<- hD0];have XA:ib r (bQ l) (nO r (bQ l)) 0=some D0:=by rw [ib,hD0]
 have hV0:=(pP dU hT).1;rw [<- hD0] at hV0;refine aM (E:=118) (sz:=2) (v:=s1) (by exact .here) fun sa6 sc6 e3=>?_;subst e3;refine aM (E:=88) (sz:=3) (v:=d1) (by exact Take.there .here) fun da6 dc6 e3=>?_;subst e3;refine aM (E:=122) (sz:=3) (v:=t1) bL fun ta6 tc6 e3=>?_;subst e3;refine aM (E:=180) (sz:=3) (v:=p1) cX fun pa6 pc6 e3=>?_;subst e3
 (refine ao (.of I) (.of I) dD I I (eF I I I I I I) (bz I) ak<|Jn<|Jq<|Jr<|Ja I<|Jn<|J0 ?_)
 refine aV (ι:=Nat×List Po×(Option Addr×Nat)×(Option Addr×Nat)×(Option Addr×Nat)×(Option Addr×Nat)) (fun y=>y.1<=l.length/\ib r (bQ l) (nO r (bQ l)) y.1=some y.2.1/\jh r y.2.1) (fun y=>[(12,.q (y.1:Nat)),(8,.p b8),(1,.slice a l.length cp),(2,.p b2),(4,.p b4)]) (fun y=>[row 118 2 (.slice y.2.2.1.1 r.sr.length y.2.2.1.2) r.sr.length (ko r.sr),row 88 3 (.slice y.2.2.2.1.1 r.de.length y.2.2.2.1.2) r.de.length (jt r.de),row 122 3 (.slice y.2.2.2.2.1.1 r.ti.length y.2.2.2.2.1.2) r.ti.length (kz r.ti),row 180 3 (.slice y.2.2.2.2.2.1 (y.2.1).length y.2.2.2.2.2.2) (y.2.1).length (gl (y.2.1)),JQ b8 r (.slice y.2.2.1.1 r.sr.length y.2.2.1.2) (.slice y.2.2.2.1.1 r.de.length y.2.2.2.1.2) (.slice y.2.2.2.2.1.1 r.ti.length y.2.2.2.2.1.2) (.slice y.2.2.2.2.2.1 (y.2.1).length y.2.2.2.2.2.2),JQ b2 r s (.slice a2 r.de.length c6) t p,bE b4 (.cells #[.q 0,.q 0,.z,.z,.z,.z] 27 (0,0))]) (fun y=>l.length-y.1) ?_ ?_
 ·with_reducible apply aI (0,D0,(sa6,sc6),(da6,dc6),(ta6,tc6),(pa6,pc6)) ⟨Zi _,XA,hV0⟩
  case hs1=>exact bS
  case ht=>exact iP
 clear XA hV0 hD0 D8 hLd;rintro ⟨i,L,⟨Pe,O8⟩,⟨Q9,Q8⟩,⟨OV,OR⟩,⟨PE,PC⟩⟩ ⟨hi,hL,hLV⟩;dsimp only at hi hL hLV ⊢;by_cases aK:i<l.length
 ·have cq:=ha (jM aK);have aC:=(hc i _ (tw l aK)).2;have gN:=Zj aK;have sN:=hM _ gN;have IY:(bQ l).getD i Tk.zero=l[i].tk:=by unfold bQ;rw [Zk,ZE,Zc aK];rfl
  have V3:=hT.lv l[i].tk (ZY gN);have Oe:=hT.de l[i].tk (ZY gN);have gq:l[i].tk.de≠⟨#[]⟩:=Wb.ne (.inr (.inl Oe));have gV:i<(bQ l).length:=by omega
  have Qx:(bQ l)[i]=l[i].tk:=ZZ _;have Mm:=fun k hk q h1=>LK dU hT gV (k:=k) (q0:=L) (q:=q) hk hL h1
  have Mq:=fun k=>vz dU hT (Zj gV) (k:=k)
  rw [Qx] at Mm Mq;have Ux:ib r (bQ l) (nO r (bQ l)) (i+1)=mo r l[i].tk l[i].tk.so.length L:=by rw [ib,hL,IY];rfl
  have hrf:=fun h2=>Gh (r:=r) (l:=bQ l) (po:=nO r (bQ l)) gV hL h2
  generalize hti:l[i]=ti at *;obtain ⟨tk,tv⟩:=ti;dsimp only at *;obtain ⟨sa,IL,sb,O4,rfl,GJ,sE,Qm,Ql⟩:=sN;rw [bG] at *;unfold maxLen at sE;have c0:w.cell? ⟨b,o+i*2,none⟩=some (.string tk.de):=aC 0 _ I;have c1:w.cell? ⟨b,o+i*2+1,none⟩=some (.slice sa tk.so.length IL):=aC 1 _ I;refine Jq<|Jr<|Jv I<|Jv I<|JI I<|JA I<|Jn<|Jd I fun az=>Jk<|Jq<|J0<|Jr<|Ja I<|Jn<|J0 ?_;refine aV (ι:=Nat×List Po×(Option Addr×Nat)×(Option Addr×Nat)×(Option Addr×Nat)×(Option Addr×Nat)) (fun y=>y.1<=tk.so.length/\mo r tk y.1 L=some y.2.1) (fun y=>[(13,.int .i64 (y.1:Nat)),(12,.int .i64 (i:Nat)),(8,.pointer (some ⟨b8,0,none⟩)),(1,.slice a l.length cp),(2,.pointer (some ⟨b2,0,none⟩)),(4,.pointer (some ⟨b4,0,none⟩))]) (fun y=>[row 118 2 (.slice y.2.2.1.1 r.sr.length y.2.2.1.2) r.sr.length (ko r.sr),row 88 3 (.slice y.2.2.2.1.1 r.de.length y.2.2.2.1.2) r.de.length (jt r.de),row 122 3 (.slice y.2.2.2.2.1.1 r.ti.length y.2.2.2.2.1.2) r.ti.length (kz r.ti),row 180 3 (.slice y.2.2.2.2.2.1 (y.2.1).length y.2.2.2.2.2.2) (y.2.1).length (gl (y.2.1)),JQ b8 r (.slice y.2.2.1.1 r.sr.length y.2.2.1.2) (.slice y.2.2.2.1.1 r.de.length y.2.2.2.1.2) (.slice y.2.2.2.2.1.1 r.ti.length y.2.2.2.2.1.2) (.slice y.2.2.2.2.2.1 (y.2.1).length y.2.2.2.2.2.2),JQ b2 r s (.slice a2 r.de.length c6) t p,bE b4 (.cells #[.int .i64 0,.int .i64 0,.slice none 0 0,.slice none 0 0,.slice none 0 0,.slice none 0 0] 27 (0,0))]) (fun y=>tk.so.length-y.1) ?_ ?_
  ·with_reducible apply aI (0,L,(Pe,O8),(Q9,Q8),(OV,OR),(PE,PC)) ⟨Zi _,I⟩
   case hs1=>exact bS
   case ht=>exact iP
  rintro ⟨k,L2,⟨IN,IM⟩,⟨I5,I4⟩,⟨IK,IJ⟩,⟨IQ,IP⟩⟩ ⟨hk,qu⟩;dsimp only at hk qu ⊢;obtain ⟨Oh,fC⟩:=Mm k hk L2 qu;have hfw:=lx dU Oh;by_cases nM:k<tk.so.length
  ·have Bg:=Qm (iE nM);have Bf:w.cell? ⟨sb,O4+k*1,none⟩=some (.string tk.so[k]):=(Ql k _ (fM nM)).2 0 _ I;have iy:tk.at k=tk.so[k]:=by unfold Tk.at;rw [Zk,Zc nM];rfl
   have hs2:mo r tk (k+1) L=if mr r tk k then (lf (r.wp L2) (k:Nat) tk.so[k] tk.de).map (fun p=>kN r L2 (k:Nat) tk.so[k] p tk.de) else some L2:=by rw [mo,qu,Option.bind_some,iy]
   have XU:mr r tk k=true↔¬ ((tk.so[k]=⟨#[]⟩\/tk.so[k]=⟨#[45]⟩)\/tk.so[k]=j4 r (k:Nat) tk.de):=by
    rw [kT,iy];constructor
    ·rintro ⟨x1,x2,x3⟩ ((e | e) | e)
     ·exact x1 e
     ·exact x3 e
     ·exact x2 e
    ·intro e;exact ⟨fun c=>e (.inl (.inl c)),fun c=>e (.inr c),fun c=>e (.inl (.inr c))⟩
   have XT:=Mq k nM;rw [iy] at XT;have yB:mr r tk k=true->lH r tk k=true:=fun c=>by
    obtain ⟨x1,x2,_⟩:=kT.1 c;exact kX.2 ⟨x1,x2⟩
   have rL:∀ {w'},aJ [] w w'->aj T_ 131 [.agg #[.q r.lv,.q r.ma,s,.slice a2 r.de.length c6,t,p],.q (k:Nat),.string tk.de] w' (.string (j4 r (k:Nat) tk.de)):=fun hk=>H9 _ _ gq hk
   generalize j4 r (k:Nat) tk.de=ck at *;generalize tk.so[k]=sk at *
   (refine Jq<|Jr<|Jv I<|bJ I I ae<|JL I eu I<|JA I<|Jn<|Jd I fun az=>Jk<|Jq<|J0<|Jr<|Jv I<|Jv I<|ab (an (.of I) (.of I) cq (by omega) (by assumption) aW) I<|bJ I I ae<|ab (ag (.of I) (At.base c1 I)) I<|Jv I<|ab (an (.of I) (.of I) Bg (by omega) (by omega) aW) I<|ab (ag (.of I) (At.base Bf I)) I<|Ja I<|Jn<|Jq<|Jq ?_)
   with_reducible refine cN 18 (by kernel_rfl) ?_
   (refine gn I I<|aA (dF (.of I) (.of I)) I<|gn I I<|bN I I inferInstance (fun hg br=>(aP (.of I))) I<|bN I I inferInstance (fun hg br=>(dF (.bF hg I) (.of I))) I<|aA (bA (.of I) I) I<|gn I I<|bN I I inferInstance (fun hg br=>(aP (.of I))) I<|bN I I inferInstance (fun hg br=>(bK (.of I) eu ak (by rfl))) I<|bN I I inferInstance (fun hg br=>(aP (.of I))) I<|bN I I inferInstance (fun hg br=>(aP (.of I))) I<|bN I I inferInstance (fun hg br=>(aP (.of I))) I<|bN I I inferInstance (fun hg br=>(an (.bF hg I) (.bF hg I) cq (by omega) (by assumption) aW)) I<|bN I I inferInstance (fun hg br=>(aq (.bF hg I) ae)) I<|bN I I inferInstance (fun hg br=>(ag (.bF hg I) (At.base c0 I))) I<|oy I I (fun hg=>(a7 (.of I) (.cons (.bF hg I) (.cons (.bF hg I) (.cons (.bF hg I) .nil))) inferInstance dZ)) I (fun hg w' aB=>(rL (Mem.keeps aB)))<|bN I I inferInstance (fun hg br=>(dF (.bF hg I) (.bF hg I))) I<|aA (bA (.of I) I) I ?_)
   with_reducible refine cT ?_
   (refine Jn<|nj I (fun az=>?_) fun az=>?_;refine Jp<|Jo<|Jt<|Jg<|Jv I<|JB I (by omega)<|Ja I<|Jn ?_;rotate_left;refine Jk<|Jq ?_;rotate_right)
   ·have hj:mr r tk k=false:=by
     rw [<- Zap];exact fun c=>XU.1 c az
    rw [hj,if_neg (by decide)] at hs2
    with_reducible apply aH (k+1,L2,(IN,IM),(I5,I4),(IK,IJ),(IQ,IP)) ⟨ZX nM,hs2⟩ (show tk.so.length-(k+1)<tk.so.length-k by omega)
    case hs1=>exact bS
    case ht=>exact iP
   have hj:mr r tk k=true:=XU.2 (fun c=>c.elim (fun c=>c.elim az.1.1 az.1.2) az.2)
   obtain ⟨⟨j1,j2⟩,oK,X8,_⟩:=XT hj;have Bl:=fC k (Zy _) nM (yB hj);rw [hj,if_pos I] at hs2;have QB:=BD gr Oh;have jw:=dU.nd;obtain ⟨E,hE⟩:∃ E,E=Pt (r.wp L2) (k:Nat) sk tk.de:=⟨_,rfl⟩;obtain ⟨W,hW⟩:∃ W,W=TK (r.wp L2) (k:Nat) sk tk.de:=⟨_,rfl⟩
   with_reducible refine dE 14 (by kernel_rfl) ?_
   (refine au (fun β=>(bK (.of I) dD ak (by rfl))) bh I<|au (fun β=>(aP (.of I))) bh I<|au (fun β=>(aP (.of I))) bh I<|au (fun β=>(aP (.of I))) bh I<|au (fun β=>(aP (.of I))) bh I<|au (fun β=>(an (.of I) (.of I) cq (by omega) (by assumption) aW)) bh I<|au (fun β=>(aq (.of I) ae)) bh I<|au (fun β=>(ag (.of I) (At.base c0 I))) bh I ?_)
   dsimp only [Nat.zero_add,Nat.reduceAdd]
   with_reducible apply eB (ι:=IA W) (Φ:=fun _=>True) (val:=fun x=>.tuple #[x.1.1,.q E]) (own:=fun x=>[iG 9 x.1.2.1 x.1.2.2]) (g:=Ig W) (B:=[]) (args:=fun _=>[.agg #[.q r.lv,.q r.ma,.slice IN r.sr.length IM,.slice I5 r.de.length I4,.slice IK r.ti.length IJ,.slice IQ (L2).length IP],.q (k:Nat),.string sk,.string tk.de])
   case hg=>exact QM W
   case hB=>rfl
   case hr=>exact fun β=>a7 (.of I) (.o I (.o I (.o I (.o I .nil)))) inferInstance I
   case hd=>rfl
   case hc=>
    intro β w' hb;rw [hE,hW];exact a8.sub (Wv (r:=r.wp L2) (k:Nat) sk tk.de (RR.wp (r:=r) (po:=L2) (cG hb.mem (by exact .here) I) (cI hb.mem (by exact Take.there .here) I) (cF hb.mem bL I) (ct hb.mem cX I)) QB oK X8 jw)
   dsimp only [Nat.reduceAdd]
   with_reducible apply au (F:=fun β=>.tuple #[(Ig W (β 8)).1.1,.q E])
   case hr=>(intro β;exact aP (.of I))
   case hi=>exact fun β β' h=>by simp only [h 8 (by kernel_rfl)]
   case hd=>rfl
   dsimp only [Nat.reduceAdd]
   with_reducible apply au (F:=fun β=>(Ig W (β 8)).1.1)
   case hr=>(intro β;exact dJ (.of I) I)
   case hi=>exact fun β β' h=>by simp only [h 8 (by kernel_rfl)]
   case hd=>rfl
   dsimp only [Nat.reduceAdd]
   with_reducible apply au (F:=fun β=>.q E)
   case hr=>(intro β;exact dJ (.of I) I)
   case hi=>exact bh
   case hd=>rfl
   dsimp only [Nat.reduceAdd]
   with_reducible apply au (F:=fun β=>(Ig W (β 8)).1.1)
   case hr=>(intro β;exact cM (.of I))
   case hi=>exact fun β β' h=>by simp only [h 8 (by kernel_rfl)]
   case hd=>rfl
   dsimp only [Nat.reduceAdd]
   with_reducible apply au (F:=fun β=>.q E)
   case hr=>(intro β;exact cM (.of I))
   case hi=>exact bh
   case hd=>rfl
   dsimp only [Nat.reduceAdd];refine eS fun β=>?_;dsimp only [dY,Za,Zb,List.append_eq,Nat.reduceAdd];generalize Ig W (β 8)=y;obtain ⟨⟨wv,vs,xs⟩,mN⟩:=y;clear β;dsimp only at mN ⊢
   with_reducible refine cu (by kernel_rfl) ?_
   refine F2 (fun w' aB=>S2.shape (Mem.Gi aB (by exact .here) mN)) fun VX=>?_;obtain ⟨wa,wc,rfl,Uj⟩:=VX
   (refine Jt<|Jq<|Jr<|Jv I<|JD I<|Jn<|gm I (fun az=>?_) fun az=>?_;refine Jr<|ab (aU .nil ak) I<|Jv I<|Jv I<|ao (.of I) (.of I) tt I I (eF I I I I I I) (bz I) ak<|Ja I<|Ja I<|Jn<|Ju<|Jm<|Jh<|Jh<|Jm<|Jm<|Jh<|Jh<|Jm<|Jh ?_;rotate_left;refine Jk<|Jr<|Jv I<|Ja I<|Jn<|Jq<|Jr<|Ja I<|Jn<|J0 ?_;rotate_right)
   ·have hP:lf (r.wp L2) (k:Nat) sk tk.de=none:=by
     cases e:lf (r.wp L2) (k:Nat) sk tk.de with
     | none=>rfl
     | some p=>exact absurd (by rw [hE];unfold Pt;rw [e];rfl) az
    have adr:E=18:=by rw [hE];unfold Pt;rw [hP];rfl
    have e1:mo r tk (k+1) L=none:=by rw [hs2,hP];rfl
    have e2:ib r (bQ l) (nO r (bQ l)) (i+1)=none:=by rw [Ux];exact zh e1 (by omega)
    have e3:=tC e2 (m:=(bQ l).length) (by omega);have e4:gI r (bQ l)=(Ro.nil,((i:Nat):Int),18):=by
     unfold gI;rw [if_neg Yr];show (match ib r (bQ l) (nO r (bQ l)) (bQ l).length with | none=>(Ro.nil,((CQ r (bQ l) (nO r (bQ l)):Nat):Int),(18:Int)) | some po=>(r.wp po,0,0))=_
     rw [e3,hrf e2]
    clear hE;subst adr;rw [e4];dsimp only;refine aN 118 2 ?_;refine aN 88 3 ?_;refine aN 122 3 ?_;refine aN 180 3 ?_
    with_reducible first|apply aO|apply aQ
    case he=>exact im I inferInstance I dD ak (by rfl) (by rfl) (by rfl)
    case hR=>
     intro w' aB;exact aD (.z,.z,.z,.z) trivial (by exact .cons cX (.cons bL (.cons (.there .here) (.h1 .nil)))) aB I
   have Ys:E=0:=Zp.1 az;clear az;obtain ⟨xp,hP⟩:∃ xp,lf (r.wp L2) (k:Nat) sk tk.de=some xp:=by
    cases e:lf (r.wp L2) (k:Nat) sk tk.de with
    | none=>rw [hE] at Ys;unfold Pt at Ys;rw [e] at Ys;cases Ys
    | some p=>exact ⟨p,rfl⟩
   have hWm:W=xp.map (dh r):=by rw [hW];unfold TK;rw [hP];rfl
   clear hW hE Ys;have hle:(dG r L2 (k:Nat) sk).least (k7 r tk.de) xp:=FQ hP;have gQ:mo r tk (k+1) L=some (kN r L2 (k:Nat) sk xp tk.de):=by rw [hs2,hP];rfl
   have hVn:=CB dU ⟨j1,j2⟩ Oh oK X8 Bl hle;have hxp:∀ i∈xp,i<r.ti.length:=Wn.sq hle.1;have Qh:xp.length<=6:=by have:=Wn.rk hle.1;have h6:(dG r L2 (k:Nat) sk).n=r.ti.length:=rfl;omega
   have Og:W.length=xp.length:=by rw [hWm,Zd]
   have VV:=fun j=>Ae (r:=r) (v:=(k:Nat)) (fun x hx=>Wb.ne (.inr (.inr hx))) (xp.take j) L2 sk (fun i hi=>hxp i (ZaM hi)) (fun q hq=>L4 QB q hq) (Wb.ne (.inl oK))
   skip
   refine aV (ι:=Nat×ByteArray×List Po×(Option Addr×Nat)×(Option Addr×Nat)×(Option Addr×Nat)×(Option Addr×Nat)) (fun y=>y.1<=W.length/\hG r (k:Nat) L2 sk (xp.take y.1)=(y.2.2.1,y.2.1)) (fun y=>[(18,.q (y.1:Nat)),(17,.string y.2.1),(15,.slice wa W.length wc),(14,.string sk),(13,.q (k:Nat)),(12,.q (i:Nat)),(8,.p b8),(1,.slice a l.length cp),(2,.p b2),(4,.p b4)]) (fun y=>[row 118 2 (.slice y.2.2.2.1.1 r.sr.length y.2.2.2.1.2) r.sr.length (ko r.sr),row 88 3 (.slice y.2.2.2.2.1.1 r.de.length y.2.2.2.2.1.2) r.de.length (jt r.de),row 122 3 (.slice y.2.2.2.2.2.1.1 r.ti.length y.2.2.2.2.2.1.2) r.ti.length (kz r.ti),row 180 3 (.slice y.2.2.2.2.2.2.1 (y.2.2.1).length y.2.2.2.2.2.2.2) (y.2.2.1).length (gl (y.2.2.1)),JQ b8 r (.slice y.2.2.2.1.1 r.sr.length y.2.2.2.1.2) (.slice y.2.2.2.2.1.1 r.de.length y.2.2.2.2.1.2) (.slice y.2.2.2.2.2.1.1 r.ti.length y.2.2.2.2.2.1.2) (.slice y.2.2.2.2.2.2.1 (y.2.2.1).length y.2.2.2.2.2.2.2),iG 9 vs xs,JQ b2 r s (.slice a2 r.de.length c6) t p,bE b4 (.cells #[.q 0,.q 0,.z,.z,.z,.z] 27 (0,0))]) (fun y=>W.length-y.1) ?_ ?_
   ·with_reducible apply aI (0,sk,L2,(IN,IM),(I5,I4),(IK,IJ),(IQ,IP)) ⟨Zi _,I⟩
    case hs1=>exact bS
    case ht=>exact iP
   rintro ⟨j,fr,q,⟨TE,TC⟩,⟨Vr,Vq⟩,⟨Tq,Tp⟩,⟨TU,TT⟩⟩ ⟨hj6,VU⟩;dsimp only at hj6 VU ⊢;obtain ⟨oA,lo,tp⟩:=VV j;rw [VU] at oA lo tp;dsimp only at oA lo tp;have aiq:q.length<=100:=by
                   have:(xp.take j).length<=xp.length:=by rw [Zs];omega
                   omega
   have hfq:jv (r.wp q):=⟨hf.1,hf.2.1,hf.2.2.1,(show q.length<=1000000 by omega)⟩;by_cases IX:j<W.length
   ·have hjx:j<xp.length:=by omega
    have ba:=Hi (r:=r) (v:=(k:Nat)) (po:=L2) (x:=sk) hjx;rw [VU] at ba;dsimp only at ba;obtain ⟨wb,wo,rfl⟩:=Uj (by intro e;rw [e] at IX;exact absurd IX (ZN _));have zI:W[j]=dh r xp[j]:=by simp only [hWm,ZZ]
    have V8:=YW oA (k:Nat) W[j];rw [<- zI] at ba;have V4:∀ w',RR w' (r.wp q) (.slice TE r.sr.length TC) (.slice Vr r.de.length Vq) (.slice Tq r.ti.length Tp) (.slice TU (q).length TT)->aj T_ 133 [.agg #[.q r.lv,.q r.ma,.slice TE r.sr.length TC,.slice Vr r.de.length Vq,.slice Tq r.ti.length Tp,.slice TU (q).length TT],.q (k:Nat),.string W[j]] w' (.string ((eD q (k:Nat) W[j]).getD ⟨#[]⟩)):=fun w' hR=>qq _ _ hR
    have Yq:∀ hs hs',Take hs (iG 9 vs xs) hs'->At ⟨w,[],f50.ntmps⟩ hs wb (wo+j*1) (.string W[j]):=fun hs hs' ht=>At.yr ht mN IX I
    generalize W[j]=nm at ba V8 V4 Yq;refine Jq<|Jr<|Jv I<|Jv I<|JI I<|JA I<|Jn<|Jd I fun az=>Jk<|Jq<|J0<|Jq<|Jq ?_
    with_reducible refine cN 8 (by kernel_rfl) ?_
    (refine aA (cm dD) I<|gn I I<|gn I I<|gn I I<|aA (an (.of I) (.of I) I (by omega) az aW) I ?_)
    refine aA (ag (.of I) (Yq _ _ eu)) I ?_
    (refine dp ef I (fun w' aB=>(V4 w' (RR.wp (cG aB .here I) (cI aB (.there .here) I) (cF aB bL I) (ct aB cX I))))<|aA (dF (.of I) (.of I)) I ?_)
    with_reducible refine cT ?_
    (refine Jn<|gm I (fun az=>?_) fun az=>?_;rotate_left;refine Jk<|Jg<|Jv I<|Jv I<|ab (an (.of I) (.of I) I (by omega) (by assumption) aW) I ?_;rotate_right)
    ·have hb:=V8.1 az;rw [hb,if_neg (by decide)] at ba
     with_reducible refine dE 9 (by kernel_rfl) ?_
     refine au (fun β=>(bK (.of I) dD ak (by rfl))) bh I ?_;refine au (fun β=>(aP (.of I))) bh I ?_;refine au (fun β=>(aP (.of I))) bh I ?_;refine au (fun β=>(aP (.of I))) bh I ?_;refine au (fun β=>(an (.of I) (.of I) I (by omega) (by assumption) aW)) bh I ?_;refine au (fun β=>(ag (.of I) (Yq _ _ eu))) bh I ?_;refine au (fun β=>(aP (.of I))) bh I ?_;refine au (fun β=>(aU (.o I (.o I (.o I .nil))) ak)) bh I ?_;dsimp only [Nat.zero_add,Nat.reduceAdd]
     with_reducible apply eB (ι:=Value×Value×Value×Value) (Φ:=fun _=>True) (val:=fun x=>.agg #[.q r.lv,.q r.ma,x.1,x.2.1,x.2.2.1,x.2.2.2]) (own:=fun x=>nQ (r.wp (eJ r ⟨(k:Nat),nm,fr⟩ q)) x) (g:=g4) (B:=[]) (args:=fun _=>[.agg #[.q r.lv,.q r.ma,.slice TE r.sr.length TC,.slice Vr r.de.length Vq,.slice Tq r.ti.length Tp,.slice TU (q).length TT],.agg #[.q (k:Nat),.string nm,.string fr]])
     case hg=>exact pJ
     case hB=>rfl
     case hr=>exact fun β=>a7 (.of I) ((.o I (.o I .nil))) inferInstance I
     case hd=>rfl
     case hc=>exact fun β w' hb=>RJ (r:=r) (q:=q) (x:=⟨(k:Nat),nm,fr⟩) (RR.wp (r:=r) (po:=q) (cG hb.mem (by exact .here) I) (cI hb.mem (by exact Take.there .here) I) (cF hb.mem bL I) (ct hb.mem cX I)) hfq
     refine eS fun β=>?_;unfold nQ Ro.wp;dsimp only [dY,Za,Zb,List.append_eq,Nat.reduceAdd];generalize g4 (β 8)=y;obtain ⟨s5,d5,t5,p5⟩:=y;clear β;dsimp only;generalize eJ r ⟨(k:Nat),nm,fr⟩ q=z at ba ⊢;refine aM (E:=118) (sz:=2) (v:=s5) (by exact .here) fun RL RK e3=>?_;subst e3;refine aM (E:=88) (sz:=3) (v:=d5) (by exact Take.there .here) fun SO SN e3=>?_;subst e3;refine aM (E:=122) (sz:=3) (v:=t5) bL fun RH RG e3=>?_;subst e3;refine aM (E:=180) (sz:=3) (v:=p5) cX fun RQ RP e3=>?_;subst e3;refine dM [row 118 2 (.slice RL r.sr.length RK) r.sr.length (ko r.sr),row 88 3 (.slice SO r.de.length SN) r.de.length (jt r.de),row 122 3 (.slice RH r.ti.length RG) r.ti.length (kz r.ti),row 180 3 (.slice RQ (z).length RP) (z).length (gl (z)),JQ b8 r (.slice TE r.sr.length TC) (.slice Vr r.de.length Vq) (.slice Tq r.ti.length Tp) (.slice TU (q).length TT),iG 9 vs xs,JQ b2 r s (.slice a2 r.de.length c6) t p,bE b4 (.cells #[.int .i64 0,.int .i64 0,.slice none 0 0,.slice none 0 0,.slice none 0 0,.slice none 0 0] 27 (0,0))] (by exact .h4 (.cons dD (.cons dD (.cons dD (.cons dD .nil))))) ?_;refine bI (rs:=[9]) (by kernel_rfl) (by simp) (Zq.2 ⟨?_,fun _ h=>absurd h Zo⟩);refine bP I ?_
     (refine ao (.of I) (.of I) dD I I (eF I I I I I I) (bz I) ak<|Jn ?_)
     with_reducible refine cu (by kernel_rfl) ?_
     refine Jt<|Jg<|Jv I<|Jv I<|ab (an (.of I) (.of I) I (by omega) (by assumption) aW) I ?_;refine ab (ag (.of I) (Yq _ _ eu)) I ?_;refine Ja I<|Jx<|Jj<|Jt<|Jg<|Jv I<|JB I (by omega)<|Ja I<|Jn ?_
     with_reducible apply aH (j+1,nm,z,(RL,RK),(SO,SN),(RH,RG),(RQ,RP)) ⟨ZX IX,ba⟩ (show W.length-(j+1)<W.length-j by omega)
     case hs1=>exact bS
     case ht=>exact iP
    ·have hb:gL q (k:Nat) nm=true:=by
      cases e:gL q (k:Nat) nm with
      | false=>exact absurd (V8.2 e) az
      | true=>rfl
     rw [hb,if_pos I] at ba;refine ab (ag (.of I) (Yq _ _ eu)) I ?_;refine Ja I<|Jx<|Jj<|Jt<|Jg<|Jv I<|JB I (by omega)<|Ja I<|Jn ?_
     with_reducible apply aH (j+1,nm,q,(TE,TC),(Vr,Vq),(Tq,Tp),(TU,TT)) ⟨ZX IX,ba⟩ (show W.length-(j+1)<W.length-j by omega)
     case hs1=>exact bS
     case ht=>exact iP
   ·have hjx:j=xp.length:=by omega
    rw [hjx,ZK] at VU;have ba:kN r L2 (k:Nat) sk xp tk.de=eJ r ⟨(k:Nat),tk.de,fr⟩ q:=by unfold kN;rw [VU]
    rw [ba] at gQ;clear ba IX hj6 VU;refine Jq<|Jr<|Jv I<|Jv I<|JI I<|JA I<|Jn<|Jc I fun az=>Jp<|Jl<|Jo<|Jt ?_
    with_reducible refine dE 10 (by kernel_rfl) ?_
    (refine au (fun β=>(bK (.of I) dD ak (by rfl))) bh I<|au (fun β=>(aP (.of I))) bh I<|au (fun β=>(aP (.of I))) bh I<|au (fun β=>(aP (.of I))) bh I<|au (fun β=>(an (.of I) (.of I) cq (by omega) (by assumption) aW)) bh I<|au (fun β=>(aq (.of I) ae)) bh I<|au (fun β=>(ag (.of I) (At.base c0 I))) bh I<|au (fun β=>(aP (.of I))) bh I<|au (fun β=>(aU (.o I (.o I (.o I .nil))) ak)) bh I ?_)
    dsimp only [Nat.zero_add,Nat.reduceAdd]
    with_reducible apply eB (ι:=Value×Value×Value×Value) (Φ:=fun _=>True) (val:=fun x=>.agg #[.q r.lv,.q r.ma,x.1,x.2.1,x.2.2.1,x.2.2.2]) (own:=fun x=>nQ (r.wp (eJ r ⟨(k:Nat),tk.de,fr⟩ q)) x) (g:=g4) (B:=[]) (args:=fun _=>[.agg #[.q r.lv,.q r.ma,.slice TE r.sr.length TC,.slice Vr r.de.length Vq,.slice Tq r.ti.length Tp,.slice TU (q).length TT],.agg #[.q (k:Nat),.string tk.de,.string fr]])
    case hg=>exact pJ
    case hB=>rfl
    case hr=>exact fun β=>a7 (.of I) ((.o I (.o I .nil))) inferInstance I
    case hd=>rfl
    case hc=>exact fun β w' hb=>RJ (r:=r) (q:=q) (x:=⟨(k:Nat),tk.de,fr⟩) (RR.wp (r:=r) (po:=q) (cG hb.mem (by exact .here) I) (cI hb.mem (by exact Take.there .here) I) (cF hb.mem bL I) (ct hb.mem cX I)) hfq
    refine eS fun β=>?_;unfold nQ Ro.wp;dsimp only [dY,Za,Zb,List.append_eq,Nat.reduceAdd];generalize g4 (β 9)=y;obtain ⟨s5,d5,t5,p5⟩:=y;clear β;dsimp only;generalize eJ r ⟨(k:Nat),tk.de,fr⟩ q=z at gQ ⊢;refine aM (E:=118) (sz:=2) (v:=s5) (by exact .here) fun RL RK e3=>?_;subst e3;refine aM (E:=88) (sz:=3) (v:=d5) (by exact Take.there .here) fun SO SN e3=>?_;subst e3;refine aM (E:=122) (sz:=3) (v:=t5) bL fun RH RG e3=>?_;subst e3;refine aM (E:=180) (sz:=3) (v:=p5) cX fun RQ RP e3=>?_;subst e3;refine dM [row 118 2 (.slice RL r.sr.length RK) r.sr.length (ko r.sr),row 88 3 (.slice SO r.de.length SN) r.de.length (jt r.de),row 122 3 (.slice RH r.ti.length RG) r.ti.length (kz r.ti),row 180 3 (.slice RQ (z).length RP) (z).length (gl (z)),JQ b8 r (.slice TE r.sr.length TC) (.slice Vr r.de.length Vq) (.slice Tq r.ti.length Tp) (.slice TU (q).length TT),JQ b2 r s (.slice a2 r.de.length c6) t p,bE b4 (.cells #[.int .i64 0,.int .i64 0,.slice none 0 0,.slice none 0 0,.slice none 0 0,.slice none 0 0] 27 (0,0))] (by exact .h4 (.cons dD (.cons eu (.cons eu .nil)))) ?_;refine bI (rs:=[10]) (by kernel_rfl) (by simp) (Zq.2 ⟨?_,fun _ h=>absurd h Zo⟩);refine bP I ?_
    (refine ao (.of I) (.of I) dD I I (eF I I I I I I) (bz I) ak<|Jn ?_)
    with_reducible refine cu (by kernel_rfl) ?_
    refine Jj<|Jt<|Jg<|Jv I<|JB I (by omega)<|Ja I<|Jn ?_
    with_reducible apply aH (k+1,z,(RL,RK),(SO,SN),(RH,RG),(RQ,RP)) ⟨ZX nM,gQ⟩ (show tk.so.length-(k+1)<tk.so.length-k by omega)
    case hs1=>exact bS
    case ht=>exact iP
  ·have e:k=tk.so.length:=by omega
   subst e;have hne:ib r (bQ l) (nO r (bQ l)) (i+1)=some L2:=by rw [Ux,qu]
   (refine Jq<|Jr<|Jv I<|bJ I I ae<|JL I eu I<|JA I<|Jn<|Jc I fun az=>Jp<|Jl<|Jo<|Jj<|Jt<|Jg<|Jv I<|JB I (by omega)<|Ja I<|Jn ?_)
   with_reducible apply aH (i+1,L2,(IN,IM),(I5,I4),(IK,IJ),(IQ,IP)) ⟨ZX aK,hne,Oh⟩ (show l.length-(i+1)<l.length-i by omega)
   case hs1=>exact bS
   case ht=>exact iP
 ·have e:i=l.length:=by omega
  subst e;have e4:gI r (bQ l)=(r.wp L,0,0):=by
   unfold gI;rw [if_neg Yr];show (match ib r (bQ l) (nO r (bQ l)) (bQ l).length with | none=>(Ro.nil,((CQ r (bQ l) (nO r (bQ l)):Nat):Int),(18:Int)) | some po=>(r.wp po,0,0))=_
   rw [uA,hL]
  rw [e4];dsimp only
  (refine Jq<|Jr<|Jv I<|Jv I<|JI I<|JA I<|Jn<|Jc I fun az=>Jp<|Jl<|Jo<|Jt<|Jr<|ab (cm dD) I<|ao (.of I) (.of I) kr I I (eF I I I I I I) (bz I) ak<|Ja I<|Ja I<|Jn<|Je ?_)
  with_reducible first|apply aO|apply aQ
  case he=>exact im I inferInstance I .here ak (by rfl) (by rfl) (by rfl)
  case hR=>
   intro w' aB;exact aD (.slice Pe r.sr.length O8,.slice Q9 r.de.length Q8,.slice OV r.ti.length OR,.slice PE (L).length PC) trivial (by exact .cons (.there .here) (.cons (.there .here) (.cons (.there .here) (.cons (.there .here) .nil)))) aB I

theorem WE (h:k<l.length) (e:oL r l[k].de≠0):yj r l k=oL r l[k].de:=by rw [q5 h,xr e]
theorem WD (h:k<l.length) (e:oL r l[k].de=0) {j:Nat} (hj:j<k) (e2:(l[j]'(by omega)).de=l[k].de):yj r l k=9:=by
 rw [q5 h,e,oh];have:((l.take k).any fun y=>decide (y.de=l[k].de))=true:=ZR.2 ⟨l[j]'(by omega),List.mem_take_iff_getElem.2 ⟨j,by omega,I⟩,decide_eq_true e2⟩
 rw [this];exact xr (by decide)
theorem Em (hk:k<=l.length) (h:∀ j (hj:j<k),(l[j]'(by omega)).de≠de):((l.take k).any fun y=>decide (y.de=de))=false:=by
 rw [Zam];intro y hy;obtain ⟨j,hj,rfl⟩:=List.mem_take_iff_getElem.1 hy;simpa using h j (by omega)
theorem WC (h:k<l.length) (e:oL r l[k].de=0) (e2:∀ j (hj:j<k),(l[j]'(by omega)).de≠l[k].de) (e3:(l[k].so.length:Int)≠r.lv):yj r l k=2:=by
 rw [q5 h,e,oh,Em (by omega) e2];show aZ (0::_)=2;rw [oh,decide_eq_true e3];exact xr (by decide)
theorem WB (h:k<l.length) (e:oL r l[k].de=0) (e2:∀ j (hj:j<k),(l[j]'(by omega)).de≠l[k].de) (e3:(l[k].so.length:Int)=r.lv) {j:Nat} (hj:j<l[k].so.length) (e4:jC r l[k].so[j]=true):yj r l k=10:=by
 rw [q5 h,e,oh,Em (by omega) e2];show aZ (0::_)=10;rw [oh,decide_eq_false (not_not_intro e3)];show aZ (0::_)=10;rw [oh,ZR.2 ⟨_,Zj hj,e4⟩]
 rfl
theorem WA (h:k<l.length) (e:oL r l[k].de=0) (e2:∀ j (hj:j<k),(l[j]'(by omega)).de≠l[k].de) (e3:(l[k].so.length:Int)=r.lv) (e4:∀ j (hj:j<l[k].so.length),jC r l[k].so[j]=false):yj r l k=0:=by
 rw [q5 h,e,oh,Em (by omega) e2];show aZ (0::_)=0;rw [oh,decide_eq_false (not_not_intro e3)];show aZ (0::_)=0;rw [oh];have:l[k].so.any (jC r)=false:=by
  rw [Zam];intro y hy;obtain ⟨j,hj,rfl⟩:=Zw hy;rw [e4 j hj];decide
 rw [this];rfl
set_option maxHeartbeats 2000000 in
theorem BE {s d t p kv:Value} {l:List fy} (h:RR w r s d t p) (hw:Rd w kv 2 (iD l)) (hM:te w l):aj T_ 49 [RA r s d t p,kv] w (.q (uR r (bQ l))):=by
 obtain ⟨h1,h2,h3,h4⟩:=h.one;obtain ⟨a,cp,b,o,rfl,dd,bO,ha,hc⟩:=hw;rw [dI] at *;unfold maxLen at bO;have nL:(bQ l).length=l.length:=Zd _;have acZ:∀ (o:ByteArray) {w'},aJ [] w w'->aj T_ 26 [.agg #[.int .i64 r.lv,.int .i64 r.ma,s,d,t,p],.string o] w' (.int .i64 (oL r o)):=fun o _ hk=>xF o (h.keeps hk)
 have Mu:∀ (o:ByteArray) {w'},aJ [] w w'->aj T_ 130 [.agg #[.q r.lv,.q r.ma,s,d,t,p],.string o] w' (.q (bC (cK r) o)):=fun o _ hk=>sT o (h.keeps hk)
 unfold RA;refine ah func49 I I ?_
 (refine Jr<|Jy I I fun _ _=>Ja I<|Jn<|Jq<|Jr<|Jv I<|JI I<|JC I<|ai bb I (fun w' aB=>(k9 _ 12 w'))<|Jv I<|JI I<|JE I<|ai bb I (fun w' aB=>(k9 _ 5 w'))<|bj (aG (.o I (.o I .nil)) I I I I) I fun _ _=>ai bM I (fun w' aB=>(jG (Mem.dz aB .here I I) (bY.cons (bY.cons bY.nil))))<|Ja I<|Ji<|Jv I<|JD I<|Jn<|gm I (fun az=>?_) fun az=>?_;refine Jr<|Jv I<|Ja I<|Jn<|Ju<|JT ?_;rotate_left;refine Jk<|Jq<|Jr<|Ja I<|Jn<|J0 ?_;rotate_right)
 ·have e1:uR r (bQ l)=En (bQ l):=if_pos (by unfold En;rw [nL];exact az);rw [e1];unfold En;rw [nL]
 have Du:En (bQ l)=0:=by unfold En;rw [nL];exact Zp.1 az
 have hX:uR r (bQ l)=jd (yj r (bQ l)) l.length:=by unfold uR;rw [if_neg (by rw [Du];decide),nL]
 clear az;rename_i b2 rM bq ml
 refine aV (fun k:Nat=>k<=l.length/\∀ i,i<k->yj r (bQ l) i=0) (fun k=>[(6,.q (k:Nat)),(1,.slice a l.length cp),(2,.p b2)])
  (fun k=>[JQ b2 r s d t p]) (fun k=>l.length-k) ?_ ?_
 ·with_reducible apply aI (0:Nat) ⟨Zi _,fun i hi=>absurd hi (ZN _)⟩
  case hs1=>exact bS
  case ht=>exact iP
 rintro k ⟨hk,hf⟩;by_cases aK:k<l.length
 ·have cq:=ha (jM aK);have aC:=(hc k _ (tw l aK)).2;have gV:k<(bQ l).length:=by omega
  have Qx:∀ j (hj:j<l.length),(bQ l)[j]'(by omega)=l[j].tk:=fun j hj=>ZZ _
  have g1:=WE (r:=r) gV;have g2:=WD (r:=r) gV;have g3:=WC (r:=r) gV;have g4:=WB (r:=r) gV;have g5:=WA (r:=r) gV;have hB:yj r (bQ l) k≠0->uR r (bQ l)=yj r (bQ l) k:=fun e=>hX.trans (eV hf aK e)
  have gQ:yj r (bQ l) k=0->∀ i,i<k+1->yj r (bQ l) i=0:=fun e i hi=>by
   by_cases e2:i=k
   ·rw [e2];exact e
   ·exact hf i (by omega)
  have sN:=hM _ (Zj aK);have acR:∀ j (hj:j<k),w.cell? ⟨b,o+j*2,none⟩=some (.string ((bQ l)[j]'(by omega)).de):=fun j hj=>by
   rw [Qx j (by omega)];exact (hc j _ (tw l (by omega))).2 0 _ I
  rw [Qx k aK] at g1 g2 g3 g4 g5;generalize l[k]=x at aC sN g1 g2 g3 g4 g5;obtain ⟨⟨xd,xs⟩,xv⟩:=x;dsimp only at aC sN g1 g2 g3 g4 g5;obtain ⟨ax,cx,bx,ox,rfl,Si,Dg,Yf,hcx⟩:=sN;rw [bG] at *;unfold maxLen at Dg;have c0:w.cell? ⟨b,o+k*2,none⟩=some (.string xd):=aC 0 _ I;have c1:w.cell? ⟨b,o+k*2+1,none⟩=some (.slice ax xs.length cx):=aC 1 _ I;have acY:=fun {w'}=>acZ xd (w':=w')
  refine Jq<|Jr<|Jv I<|Jv I<|JI I<|JA I<|Jn<|Jd I fun az=>Jk<|Jq<|J0<|Jq<|Jq ?_
  with_reducible refine cN 8 (by kernel_rfl) ?_
  (refine aA (cm .here) I<|gn I I<|gn I I<|aA (fT cq az) I<|lS I I ae<|aA (ag (.of I) (At.base c0 I)) I<|dp bb I (fun w' aB=>(acY (Mem.keeps aB)))<|aA (cM (.of I)) I ?_)
  with_reducible refine cT ?_
  (refine Ji<|Jv I<|JD I<|Jn<|gm I (fun az=>?_) fun az=>?_;refine Jr<|Jv I<|Ja I<|Jn<|Ju<|Jm<|Jh<|Jh<|Jm<|Jh<|JT ?_;rotate_left;refine Jk<|Jq<|Jr<|Ja I<|Jn<|J0 ?_;rotate_right)
  ·rw [hB (by rw [g1 az];exact az),g1 az]
  have e0:oL r xd=0:=Zp.1 az;clear az
  refine aV (fun j:Nat=>j<=k/\∀ i (hi:i<k),i<j->((bQ l)[i]'(by omega)).de≠xd) (fun j=>[(8,.q (j:Nat)),(6,.q (k:Nat)),(1,.slice a l.length cp),(2,.p b2)])
   (fun _=>[JQ b2 r s d t p]) (fun j=>k-j) ?_ ?_
  ·with_reducible apply aI (0:Nat) ⟨Zi _,fun i _ hi=>absurd hi (ZN _)⟩
   case hs1=>exact bS
   case ht=>exact iP
  rintro j ⟨hj,oB⟩;by_cases Mr:j<k
  ·have cj:=acR j Mr;have MF:=g2 e0 Mr;have Mk:((bQ l)[j]'(by omega)).de≠xd->∀ i (hi:i<k),i<j+1->((bQ l)[i]'(by omega)).de≠xd:=fun q i hi yy=>by
    by_cases e:i=j
    ·subst e;exact q
    ·exact oB i hi (by omega)
   generalize ((bQ l)[j]'(by omega)).de=yd at cj MF Mk;refine Jq<|Jr<|Jv I<|Jv I<|JA I<|Jn<|Jd I fun az=>Jk<|Jq<|J0<|Jq ?_
   with_reducible refine cN 11 (by kernel_rfl) ?_
   (refine gn I I<|gn I I<|aA (an (.of I) (.of I) cq (by omega) (by omega) aW) I<|lS I I ae<|aA (ag (.of I) (At.base cj I)) I<|gn I I<|gn I I<|aA (an (.of I) (.of I) cq (by omega) (by assumption) aW) I<|lS I I ae<|aA (ag (.of I) (At.base c0 I)) I<|aA (dF (.of I) (.of I)) I ?_)
   with_reducible refine cT ?_
   (refine Jn<|gm I (fun az=>?_) fun az=>?_;refine Jr<|Ja I<|Jn<|Je<|Jm<|Jh<|Jh<|Jm<|Jh<|Jm<|Jh<|Jh<|Jm<|Jh<|JT ?_;rotate_left;refine Jw<|Jj<|Jt<|Jg<|Jv I<|JB I (by omega)<|Ja I<|Jn ?_;rotate_right)
   ·have e9:=MF az;rw [hB (by rw [e9];decide),e9]
   with_reducible apply aH (j+1) ⟨ZX Mr,Mk az⟩ (show k-(j+1)<k-j by omega)
   case hs1=>exact bS
   case ht=>exact iP
  have ejk:j=k:=by omega
  subst ejk;have UE:∀ i (hi:i<j),((bQ l)[i]'(by omega)).de≠xd:=fun i hi=>oB i hi hi
  clear oB Mr hj;refine Jq<|Jr<|Jv I<|Jv I<|JA I<|Jn<|Jc I fun az=>Jp<|Jl<|Jo<|Jt<|Jq<|Jq ?_
  with_reducible refine cN 9 (by kernel_rfl) ?_
  (refine gn I I<|gn I I<|aA (an (.of I) (.of I) cq (by omega) (by assumption) aW) I<|lS I I ae<|aA (ag (.of I) (At.base c1 I)) I<|aA (bZ (.of I)) I<|lS I I ae<|aA (gX .here) I<|aA (jl (.of I) (.of I)) I ?_)
  with_reducible refine cT ?_
  (refine Jn<|gm I (fun az=>?_) fun az=>?_;refine Jr<|Ja I<|Jn<|Ju<|Jm<|Jh<|Jh<|Jm<|Jh<|JT ?_;rotate_left;refine Jk<|Jr<|Ja I<|Jn<|J0 ?_;rotate_right)
  ·have e2:=g3 e0 UE az;rw [hB (by rw [e2];decide),e2]
  have elv:(xs.length:Int)=r.lv:=Zp.1 az;clear az
  refine aV (fun i:Nat=>i<=xs.length/\∀ q (hq:q<xs.length),q<i->jC r xs[q]=false) (fun i=>[(9,.q (i:Nat)),(6,.q (j:Nat)),(1,.slice a l.length cp),(2,.p b2)])
   (fun _=>[JQ b2 r s d t p]) (fun i=>xs.length-i) ?_ ?_
  ·with_reducible apply aI (0:Nat) ⟨Zi _,fun i _ hi=>absurd hi (ZN _)⟩
   case hs1=>exact bS
   case ht=>exact iP
  rintro i ⟨hi,oB⟩;by_cases jO:i<xs.length
  ·have ac8:=Yf (iE jO);have cx0:w.cell? ⟨bx,ox+i*1,none⟩=some (.string xs[i]):=(hcx i _ (fM jO)).2 0 _ I;have MF:=g4 e0 UE elv jO;have Mk:jC r xs[i]=false->∀ q (hq:q<xs.length),q<i+1->jC r xs[q]=false:=fun e q hq R9=>by
    by_cases e2:q=i
    ·subst e2;exact e
    ·exact oB q hq (by omega)
   have hlb:jC r xs[i]=(decide (xs[i]≠⟨#[]⟩)&&decide (xs[i]≠⟨#[45]⟩)&&decide (bC (cK r) xs[i]<0)):=rfl;generalize jC r xs[i]=lb at MF Mk hlb;generalize xs[i]=y at cx0 hlb
   (refine Jq<|Jr<|Jv I<|Jv I<|Jv I<|ab (an (.of I) (.of I) cq (by omega) (by assumption) aW) I<|bJ I I ae<|ab (ag (.of I) (At.base c1 I)) I<|JI I<|JA I<|Jn<|Jd I fun az=>Jk<|Jq<|J0<|Jr<|Jv I<|Jv I<|ab (an (.of I) (.of I) cq (by omega) (by assumption) aW) I<|bJ I I ae<|ab (ag (.of I) (At.base c1 I)) I<|Jv I<|ab (an (.of I) (.of I) ac8 (by omega) az aW) I<|ab (ag (.of I) (At.base cx0 I)) I<|Ja I<|Ji<|Jv I<|ab (fN (.of I) (.of I)) I<|Jv I<|iQ I I I I<|aF I I inferInstance (fun hg br=>(fN (.bF hg I) (.of I))) I<|ab (bX (.of I) I) I<|Jv I<|aF I I inferInstance (fun hg br=>(bK (.of I) .here ak (by rfl))) I<|iQ I I I I<|ep I I (fun hg=>(a7 (.of I) (.cons (.bF hg I) (.cons (.bF hg I) .nil)) inferInstance dZ)) I (fun hg w' aB=>(Mu y (Mem.keeps aB)))<|aF I I inferInstance (fun hg br=>(lh (.bF hg I) (.of I))) I<|ab (bX (.of I) I) I<|Jn<|nj I (fun az=>?_) fun az=>?_;refine Jr<|Ja I<|Jn<|Je<|Jm<|Jh<|Jh<|Jm<|Jm<|Jh<|Jh<|Jm<|Jh<|JT ?_;rotate_left;refine Jw<|Jj<|Jt<|Jg<|Jv I<|JB I (by omega)<|Ja I<|Jn ?_;rotate_right)
   ·have e4:=MF (by rw [hlb,decide_eq_true az.1.1,decide_eq_true az.1.2,decide_eq_true az.2];rfl);rw [hB (by rw [e4];decide),e4]
   have e5:lb=false:=by
    rw [hlb];rcases az with (q | q) | q
    ·rw [decide_eq_false q];rfl
    ·rw [decide_eq_false q];simp
    ·rw [decide_eq_false q];simp
   with_reducible apply aH (i+1) ⟨ZX jO,Mk e5⟩ (show xs.length-(i+1)<xs.length-i by omega)
   case hs1=>exact bS
   case ht=>exact iP
  have e5:=gQ (g5 e0 UE elv fun q hq=>oB q hq (by omega))
  (refine Jq<|Jr<|Jv I<|Jv I<|Jv I<|ab (an (.of I) (.of I) cq (by omega) (by assumption) aW) I<|bJ I I ae<|ab (ag (.of I) (At.base c1 I)) I<|JI I<|JA I<|Jn<|Jc I fun az=>Jp<|Jl<|Jo<|Jj<|Jt<|Jg<|Jv I<|JB I (by omega)<|Ja I<|Jn ?_)
  with_reducible apply aH (j+1) ⟨ZX aK,e5⟩ (show l.length-(j+1)<l.length-j by omega)
  case hs1=>exact bS
  case ht=>exact iP
 ·obtain rfl:k=l.length:=by omega
  rw [hX,dQ.2 hf];refine Jq<|Jr<|Jv I<|Jv I<|JI I<|JA I<|Jn<|Jc I fun az=>Jp<|Jl<|Jo<|Jt<|Jr<|Ja I<|Jn<|Je<|JT ?_
  rfl
end Go.Proofs.A1
