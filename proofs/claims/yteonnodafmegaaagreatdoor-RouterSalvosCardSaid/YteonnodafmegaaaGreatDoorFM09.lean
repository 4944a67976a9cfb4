/- Parts of the proof: KNq TryzSort KN KO KP KQ KR KS KT KU KW KX KYq P5p. -/
import Derived.Test.YteonnodafmegaaaGreatDoorFM08
import Derived.Test.YteonnodafmegaaaGreatDoorFM02
import Derived.Shelf.Sort.Plain
import Derived.Ground.NamesProg
import Derived.Ground.Names2Prog
import Derived.Test.YteonnodafmegaaaGreatDoorProg
import Derived.Test.YteonnodafmegaaaGreatDoorFM04
import Derived.Test.YteonnodafmegaaaGreatDoorFM03
import Derived.Shelf.Slices.In.SortNone
import Derived.Test.YteonnodafmegaaaGreatDoorFM05
import Derived.Test.YteonnodafmegaaaGreatDoorFM07
import Derived.Test.YteonnodafmegaaaGreatDoorFM01
set_option linter.unusedSectionVars false
set_option linter.unusedVariables false
set_option linter.unusedSimpArgs false
namespace Go.Proofs.A1
open Go Go.SL
def iD (r:Ro) (v:Int) (so:ByteArray):Nat->List Int
  | 0=>[oV r so]
  | k+1=>if yk r v so k&&!(iD r v so k).contains (ig r k).to then iD r v so k++[(ig r k).to] else iD r v so k
theorem CF (r:Ro) (v:Int) (so:ByteArray):∀ k,(iD r v so k).length<=k+1
  | 0=>Zz _
  | k + 1 => by
    have:=CF r v so k;unfold iD;split
    · rw [Zg];simp;omega
    · omega
theorem wh (r:Ro) (v:Int) (so:ByteArray):∀ k,(iD r v so k).Nodup
  | 0=>by simp [iD]
  | k + 1 => by
    have:=wh r v so k;unfold iD;split
    · rename_i h
      rw [Zn] at h;rw [ZK];refine ⟨this,by simp,fun a ha b hb e=>?_⟩;rw [ZG] at hb;subst hb;subst e;have:=h.2;rw [ZaN.2 ha] at this;cases this
    · exact this
theorem zq (r:Ro) (v:Int) (so:ByteArray) {m:Int}:∀ {a b:Nat},a<=b->m∈iD r v so a->m∈iD r v so b:=by
  intro a b h
  induction h with
  | refl=>exact id
  | step _ ih =>
    intro hm;have:=ih hm;rw [iD];split
    · exact ZJ _ this
    · exact this
theorem KM (r:Ro) (v:Int) (so:ByteArray) (k:Nat):oV r so∈iD r v so k:=zq r v so (Zi k) (by simp [iD])
variable {r:Ro}
theorem OJ {v:Int} {so:ByteArray} {k t:Nat} (ht:t<k) (h:yk r v so t=true):(ig r t).to∈iD r v so k:=by
  refine zq r v so (show t+1<=k from ht) ?_;rw [iD];split
  · exact ZW _ (by simp)
  · rename_i hc
    rw [h,Zau,Zbd,Bool.not_eq_false] at hc;exact ZaN.1 hc
theorem AP {r:Ro} (dU:sg r) {v:Int} {so:ByteArray} (hs:so∈cK r):∀ k,k<=r.ti.length->∀ m∈iD r v so k,(dJ r r.po v so).Rc m
  | 0, _, m, hm => by
    rw [iD,ZG] at hm;subst hm;rw [<- py hs];exact Wn.Rc.Fu
  | k + 1, hk, m, hm => by
    rw [iD] at hm;split at hm
    · rename_i h
      rcases ZB.1 hm with hm | hm
      · exact AP dU hs k (by omega) m hm
      · rw [ZG] at hm
        subst hm;rw [Zn,rU dU.wJ dU.val] at h;exact Wn.Rc.ca (N:=dJ r r.po v so) (show k<r.ti.length from hk) h.1
    · exact AP dU hs k (by omega) m hm
theorem wB (dU:sg r) {v:Int} {so:ByteArray} (hs:so∈cK r) {m:Int} (h:(dJ r r.po v so).Rc m):0<=m/\m<r.ma:=by
  have Vf:∀ i,i<r.ti.length->0<=(ig r i).to/\(ig r i).to<r.ma:=fun i hi=>by
    rw [om hi];exact (dU.tm _ (Zj hi)).2.1
  cases h with
  | Fu =>
    show 0<=kI r so/\kI r so<r.ma;rw [py hs];unfold oV;obtain ⟨hl,_⟩:=fB (l:=cK r) (s:=so) (dS hs);have yA:(bA (cK r) so).toNat<r.sr.length:=by
                                                           have e:(cK r).length=r.sr.length:=by unfold cK;rw [Zd]
                                                           omega
    rw [Zk,Zc yA];exact dU.sm _ (Zj yA)
  | ca hi _=>exact Vf _ hi
  | fe hi _ _=>exact Vf _ hi
structure xW (r:Ro) (v:Int) (so:ByteArray) (L:List Int) (i:Nat):Prop where
  nd:L.Nodup
  rc:∀ m∈L,(dJ r r.po v so).Rc m
  rt:∀ m∈iD r v so r.ti.length,m∈L
  dn:∀ j x,j<i->L[j]? = some x->∀ t,t<r.ti.length->Ds r v x t=true->(ig r t).to∈L
theorem Gw {L:List Int} {n:Nat} (jq:L.Nodup) (h:∀ m∈L,0<=m/\m<(n:Nat)):L.length<=n:=by
  have:=lY n (L.map Int.toNat) (by
    show List.Pairwise (fun a b=>a≠b) (L.map Int.toNat)
    rw [ZbB];refine List.Pairwise.imp_of_mem (fun {a b} ha hb hne e=>hne ?_) jq;have:=h a ha;have:=h b hb;omega) (fun x hx=>by
    obtain ⟨m,hm,rfl⟩:=Zy.1 hx;have:=h m hm;omega)
  rwa [Zd] at this
theorem xW.Bz (dU:sg r) {v:Int} {so:ByteArray} (hs:so∈cK r) {L:List Int} {i:Nat} (h:xW r v so L i):L.length<=4:=by
  have hl:=dU.lim;refine Gw h.nd fun m hm=>?_;have:=wB dU hs (h.rc m hm);omega
theorem xW.begin (dU:sg r) {v:Int} {so:ByteArray} (hs:so∈cK r):xW r v so (iD r v so r.ti.length) 0:=
  ⟨wh r v so _,AP dU hs _ (Zz _),fun _ h=>h,fun j x h=>absurd h (ZU _)⟩
theorem xW.done (dU:sg r) {v:Int} {so:ByteArray} (hs:so∈cK r) {L:List Int} (h:xW r v so L L.length) (m:Int):m∈L↔(dJ r r.po v so).Rc m:=by
  refine Wn.OO (S:=fun m=>m∈L) ⟨?_,fun i hi hc=>?_⟩ (fun m hm=>h.rc m hm) m
  · show kI r so∈L
    rw [py hs];exact h.rt _ (KM r v so _)
  · rcases hc with hc | ⟨hf,tZ⟩
    · rw [<- rU dU.wJ dU.val] at hc
      exact h.rt _ (OJ hi hc)
    · obtain ⟨j,hj,e⟩:=ZA tZ
      refine h.dn j _ hj (Zc hj) i hi ?_;rw [rN v so,e,hf];simp
def Nu (r:Ro) (v:Int) (so:ByteArray) (m:Int):Bool:=!((dJ r r.po v so).all m ((dJ r r.po v so).n+1) []).isEmpty
theorem KU (r:Ro) (v:Int) (so:ByteArray) (m:Int):Nu r v so m=true↔(dJ r r.po v so).Rc m:=by
  unfold Nu;rw [Zbd,List.isEmpty_eq_false_iff];constructor
  · intro h
    obtain ⟨q,hq⟩:=List.exists_mem_of_ne_nil _ h;obtain ⟨h1,h2⟩:=Wn.vB (Wn.oz _) hq;rw [<- h2];exact Wn.V8 h1
  · intro h e
    obtain ⟨p,hp,hf⟩:=Wn.Wl h;exact Wn.all_none e p hp hf
def xB (r:Ro) (v:Int) (so:ByteArray):List Int:=((List.range r.ma.toNat).map fun i:Nat=>(i:Int)).filter (Nu r v so)
theorem Dy (r:Ro) (v:Int) (so:ByteArray):(xB r v so).Pairwise (fun a b=>a<b):=by
  unfold xB;refine List.Pairwise.filter _ ?_;rw [ZbB];exact List.pairwise_lt_range.imp fun h=>by omega
theorem MO (dU:sg r) {v:Int} {so:ByteArray} (hs:so∈cK r) {m:Int}:m∈xB r v so↔(dJ r r.po v so).Rc m:=by
  unfold xB;rw [Zr,KU];constructor
  · exact fun h=>h.2
  · intro h
    have:=wB dU hs h;exact ⟨Zy.2 ⟨m.toNat,ZX.2 (by omega),by omega⟩,h⟩
theorem MM (dU:sg r) {v:Int} {so:ByteArray} (hs:so∈cK r) {L S:List Int} (jq:L.Nodup) (hL:∀ m,m∈L↔(dJ r r.po v so).Rc m) (hp:S.Perm L) (PA:S.Pairwise (fun a b=>a<=b)):S=xB r v so:=by
  have hSn:S.Nodup:=hp.nodup_iff.2 jq;have hSs:S.Pairwise (fun a b=>a<b):=(PA.and hSn).imp fun ⟨h1,h2⟩=>by omega
  refine pn (R:=fun a b:Int=>a<b) (fun a b h h'=>by omega) hSs (Dy r v so) ?_;refine (Zaw hSn ((Dy r v so).imp fun h=>by omega)).2 fun m=>?_;rw [hp.mem_iff,hL,MO dU hs]
end Go.Proofs.A1
namespace Go.Proofs
open Go.Shelf
def Tryz.C2:Go.Shelf.Ren:=⟨fun | 189=>156 | 125=>245 | 257=>244 | 128=>312 | 129=>313 | 294=>303 | 295=>304 | 296=>305 | 297=>306 | 298=>307 | 299=>308 | 216=>309 | 300=>310 | 301=>311 | 328=>343 | 329=>344 | 330=>345 | 331=>346 | 332=>347 | 215=>342 | 343=>367 | n=>n,fun | 28=>49 | 3=>3 | 46=>318 | 0=>0 | 51=>381 | 53=>383 | 4=>4 | 183=>374 | 182=>373 | 131=>272 | 5=>5 | 9=>9 | 218=>409 | 222=>413 | 228=>428 | 229=>359 | n=>n,fun | n=>n⟩
theorem Tryz.Gt:Go.Proofs.Lays.n189 Tryz.prog Tryz.C2:={
 mixed:=by kernel_rfl
 f125:=Tryz.func245.trans (congrArg some (by kernel_rfl))
 f128:=Tryz.func312.trans (congrArg some (by kernel_rfl))
 f129:=Tryz.func313.trans (congrArg some (by kernel_rfl))
 f189:=Tryz.func156.trans (congrArg some (by kernel_rfl))
 f215:=Tryz.func342.trans (congrArg some (by kernel_rfl))
 f216:=Tryz.func309.trans (congrArg some (by kernel_rfl))
 f257:=Tryz.func244.trans (congrArg some (by kernel_rfl))
 f294:=Tryz.func303.trans (congrArg some (by kernel_rfl))
 f295:=Tryz.func304.trans (congrArg some (by kernel_rfl))
 f296:=Tryz.func305.trans (congrArg some (by kernel_rfl))
 f297:=Tryz.func306.trans (congrArg some (by kernel_rfl))
 f298:=Tryz.func307.trans (congrArg some (by kernel_rfl))
 f299:=Tryz.func308.trans (congrArg some (by kernel_rfl))
 f300:=Tryz.func310.trans (congrArg some (by kernel_rfl))
 f301:=Tryz.func311.trans (congrArg some (by kernel_rfl))
 f328:=Tryz.func343.trans (congrArg some (by kernel_rfl))
 f329:=Tryz.func344.trans (congrArg some (by kernel_rfl))
 f330:=Tryz.func345.trans (congrArg some (by kernel_rfl))
 f331:=Tryz.func346.trans (congrArg some (by kernel_rfl))
 f332:=Tryz.func347.trans (congrArg some (by kernel_rfl))
 f343:=Tryz.func367.trans (congrArg some (by kernel_rfl))
 t0:=Tryz.underlying0
 a0:=Tryz.isAgg0
 z0:=Tryz.sizeOf0
 v0:=Tryz.zeroValue0
 t3:=Tryz.underlying3
 a3:=Tryz.isAgg3
 z3:=Tryz.sizeOf3
 v3:=Tryz.zeroValue3
 t4:=Tryz.underlying4
 a4:=Tryz.isAgg4
 z4:=Tryz.sizeOf4
 v4:=Tryz.zeroValue4
 t5:=Tryz.underlying5
 a5:=Tryz.isAgg5
 z5:=Tryz.sizeOf5
 v5:=Tryz.zeroValue5
 t9:=Tryz.underlying9
 a9:=Tryz.isAgg9
 z9:=Tryz.sizeOf9
 v9:=Tryz.zeroValue9
 t28:=Tryz.underlying49
 a28:=Tryz.isAgg49
 z28:=Tryz.sizeOf49
 v28:=Tryz.zeroValue49
 t46:=Tryz.underlying318
 a46:=Tryz.isAgg318
 z46:=Tryz.sizeOf318
 v46:=Tryz.zeroValue318
 t51:=Tryz.underlying381
 a51:=Tryz.isAgg381
 z51:=Tryz.sizeOf381
 v51:=Tryz.zeroValue381
 t53:=Tryz.underlying383
 a53:=Tryz.isAgg383
 z53:=Tryz.sizeOf383
 v53:=Tryz.zeroValue383
 t131:=Tryz.underlying272
 a131:=Tryz.isAgg272
 z131:=Tryz.sizeOf272
 v131:=Tryz.zeroValue272
 t182:=Tryz.underlying373
 a182:=Tryz.isAgg373
 z182:=Tryz.sizeOf373
 v182:=Tryz.zeroValue373
 t183:=Tryz.underlying374
 a183:=Tryz.isAgg374
 z183:=Tryz.sizeOf374
 v183:=Tryz.zeroValue374
 t218:=Tryz.underlying409
 a218:=Tryz.isAgg409
 z218:=Tryz.sizeOf409
 v218:=Tryz.zeroValue409
 t222:=Tryz.underlying413
 a222:=Tryz.isAgg413
 z222:=Tryz.sizeOf413
 v222:=Tryz.zeroValue413
 t228:=Tryz.underlying428
 a228:=Tryz.isAgg428
 z228:=Tryz.sizeOf428
 v228:=Tryz.zeroValue428
 t229:=Tryz.underlying359
 a229:=Tryz.isAgg359
 z229:=Tryz.sizeOf359
 v229:=Tryz.zeroValue359 }
open Go.Sort Go.RowKit in
theorem Tryz.slices_Sort_int (bz off cap:Nat) (zs:List Int) (w:World) (hH:Holds (Value.int .i64) w bz off zs.toArray) (hblk:bz<w.heap.size) (hsz:zs.length<4611686018427387904) :
  Calls Tryz.prog 156 #[.slice (some ⟨bz,off,none⟩) zs.length cap] w fun e w'=>
   e=.returned (.tuple #[])/\∃ n os,w'=grow (putRow (Value.int .i64) (Sort.ahead w n) bz off (zs.mergeSort fun x y=>decide (x<=y)).toArray) os:=Any.slices_Sort_int Tryz.Gt bz off cap zs w hH hblk hsz
end Go.Proofs
namespace Go.Proofs.A1
open Go Go.SL
open Tryz
open Tryz renaming prog->T_
theorem Pk (l:List Int):∀ r∈ints l,r.length=1:=fun r hr=>by obtain ⟨x,_,rfl⟩:=Zy.1 hr;rfl
theorem lN {c:Cx} {hs hs':List bd} {w:World} {l:List Int} {E:TypeId} {v:Value} {n:Nat} (hm:Mem c hs w) (ht:Take hs (row E 1 v n (l.map (Value.int .i64))) hs') (hn:l.length=n):Rd w v 1 (ints l):=hm.pH ht (zL l) (Pk l) (by rw [dz,hn])
set_option maxHeartbeats 1000000 in
theorem Gc {r:Ro} {s d t p:Value} (v:Int) (so:ByteArray) {w:World} (h:RR w r s d t p) (c8:r.ti.length<=1000) (TQ:so∈cK r) :
  bh T_ 152 [RA r s d t p,.q v,.string so] w [] (fun _:Value=>True) id (fun x=>[row 3 1 x (iD r v so r.ti.length).length ((iD r v so r.ti.length).map (Value.int .i64))]):=by
 obtain ⟨h1,h2,h3,h4⟩:=h.one;have hti:=h.ti;obtain ⟨a,cp,b,o',rfl,dy,bT,ha,hc⟩:=hti;have TN:=h.sr;obtain ⟨a2,pb,b2,o2,rfl,kq,eU,jB,kr⟩:=TN;rw [bQ] at *;rw [ct] at *;unfold maxLen at bT eU;obtain ⟨i0,r7⟩:∃ i:Nat,bA (cK r) so=(i:Nat):=⟨(bA (cK r) so).toNat,by have:=dS TQ;omega⟩;have E6:i0<r.sr.length:=by
  obtain ⟨hl,_⟩:=fB (l:=cK r) (s:=so) (by omega);rw [r7,ZL] at hl;unfold cK at hl;rwa [Zd] at hl
 have Bm:oV r so=(r.sr[i0]).mx:=by unfold oV;rw [r7,ZL,Zk,Zc E6];rfl
 have hsrc:∀ w',aJ [] w w'->ak T_ 180 [.agg #[.q r.lv,.q r.ma,.slice a2 r.sr.length pb,d,.slice a r.ti.length cp,p],.string so] w' (.q (i0:Nat)):=fun w' hk=>r7 ▸ px so (h.keeps hk)
 have qU:=jB (iK E6);have fE:=(kr i0 _ (fV E6)).2;unfold Sr.cells at fE;have Vl:=fE 1 _ I;unfold RA;refine aR func152 I I ?_;refine Jr<|Jy I I fun _ _=>Ja I<|Jn<|Jq ?_;rename_i b3 uf
 with_reducible refine di 9 (by kernel_rfl) ?_
 (refine az lV I<|az (iB .here) I<|az (cm .here) I<|az mB I<|aY bb I (fun w' aB=>(hsrc w' (Mem.keeps aB)))<|az (an (.of I) (.of I) qU (by omega) (by omega) aW) I<|az lV I<|az (ag (.of I) (At.base Vl I)) I<|eN (aD (.o I .nil) I I I I) I I ?_)
 with_reducible refine dN I fun bq nf=>?_
 rw [<- Bm]
 (refine Ja I<|Jn<|Jq<|Jr<|bG I I ae<|JL I (.there .here) I<|JI I<|Jv I<|Jn<|J0 ?_)
 refine bP (g:=bq) (E:=3) (ys:=[.q (oV r so)]) 1 1 (by exact .here) I I I ?_
 refine aV (ι:=Nat×Value) (fun x=>x.1<=r.ti.length) (fun x=>[(22,.q (x.1:Nat)),(21,.q (r.ti.length:Nat)),(20,.slice a r.ti.length cp),(7,x.2),(3,.p b3),(1,.q v),(2,.string so)])
  (fun x=>[row 3 1 x.2 (iD r v so x.1).length ((iD r v so x.1).map (Value.int .i64)),JP b3 r (.slice a2 r.sr.length pb) d (.slice a r.ti.length cp) p]) (fun x=>r.ti.length-x.1) ?_ ?_
 ·apply aI (0,.w bq 1 1) (Zi _)
  case hs1=>exact bS
  case ht=>
   exact .h2 .nil
 rintro ⟨k,ov⟩ hk;dsimp only at hk ⊢;have WK:=CF r v so k;by_cases aM:k<r.ti.length
 ·have cu:=ha (fm aM);have aC:=(hc k _ (ef aM)).2;unfold Ti.cells at aC;have Bj:=om aM;have tx:dw r k=(r.ti[k]).nm:=by unfold dw;rw [Bj]
  have hrs:iD r v so (k+1)=if yk r v so k&&!(iD r v so k).contains (r.ti[k]).to then iD r v so k++[(r.ti[k]).to] else iD r v so k:=by rw [iD,Bj]
  generalize hL:iD r v so k=L at WK hrs ⊢;have Dq:L.length=L.length:=rfl;have Dm:∀ w',aJ [] w w'->ak T_ 121 [.agg #[.q r.lv,.q r.ma,.slice a2 r.sr.length pb,d,.slice a r.ti.length cp,p],.q v,.string (r.ti[k]).nm] w' (.bool (gM r.po v (r.ti[k]).nm)):=fun w' hk=>rV v _ (h.keeps hk)
  have r8:∀ w',aJ [] w w'->ak T_ 126 [.agg #[.q r.lv,.q r.ma,.slice a2 r.sr.length pb,d,.slice a r.ti.length cp,p],.q v,.string (r.ti[k]).nm] w' (.string (jD r v (r.ti[k]).nm)):=fun w' hk=>qP v _ (h.keeps hk) (by omega)
  have Ml:∀ (w':World),Rd w' ov 1 (ints L)->ak T_ 154 [ov,.q (r.ti[k]).to] w' (.bool (L.contains (r.ti[k]).to)):=fun w' hr=>mr _ hr
  have skip:(yk r v so k&&!L.contains (r.ti[k]).to)=false->iD r v so (k+1)=L:=fun e=>by rw [hrs,e];rfl
  cases B4:gM r.po v (r.ti[k]).nm with
  | false =>
   have Dn:∀ w',aJ [] w w'->ak T_ 121 [.agg #[.q r.lv,.q r.ma,.slice a2 r.sr.length pb,d,.slice a r.ti.length cp,p],.q v,.string (r.ti[k]).nm] w' (.bool false):=fun w' hk=>B4 ▸ Dm w' hk
   have WJ:=skip (by unfold yk;rw [tx,B4];rfl)
   (refine Jr<|JA I<|Jn<|Jq<|Jd I fun au=>Jk<|Jq<|J0<|Jr<|ab (fY cu au) I<|ab (iU (eR.base aC I)) I<|Jz I I fun _ _=>ao (.of I) (.of I) .here I I (fv I I I) (bu I) ai<|Ji<|ab (cm bI) I<|Jv I<|bG I I ae<|JL I .here I<|aj eo I (fun w' aB=>(Dn w' (Mem.keeps aB)))<|Jv I<|aH I I inferInstance (fun hg bE=>(bK (.of I) bI ai (by rfl))) I<|jz I I I I<|aH I I inferInstance (fun hg bE=>(aq (.of I) ae)) I<|aH I I inferInstance (fun hg bE=>(ag (.bM bE I) (At.lit .here I))) I<|eS I I I I<|jz I I I I<|eS I I I I<|ab (df (.of I) (.of I) (.of I) I) I<|Jv I<|jz I I I I<|aH I I inferInstance (fun hg bE=>(aq (.of I) ae)) I<|aH I I inferInstance (fun hg bE=>(ag (.bM bE I) (At.lit .here I))) I<|eS I I I I<|aH I I inferInstance (fun hg bE=>(eF (.bM bE I))) I<|ab (df (.of I) (.of I) (.of I) I) I<|Jn<|bZ (.of I)<|Jw<|Jj<|Jt<|Jg<|JB I (by omega)<|Jv I<|Jn ?_)
   apply aG (k+1,ov) (show k+1<=r.ti.length by omega) (show r.ti.length-(k+1)<r.ti.length-k by omega)
   case hs1=>exact bS
   case ht=>
    rw [WJ];exact .cons (.there .here) (.cons (.there .here) .nil)
  | true =>
   have Dn:∀ w',aJ [] w w'->ak T_ 121 [.agg #[.q r.lv,.q r.ma,.slice a2 r.sr.length pb,d,.slice a r.ti.length cp,p],.q v,.string (r.ti[k]).nm] w' (.bool true):=fun w' hk=>B4 ▸ Dm w' hk
   by_cases Bk:jD r v (r.ti[k]).nm=so
   ·cases H6:L.contains (r.ti[k]).to with
    | true =>
     have PT:∀ (w':World),Rd w' ov 1 (ints L)->ak T_ 154 [ov,.q (r.ti[k]).to] w' (.bool true):=fun w' hr=>H6 ▸ Ml w' hr
     have WJ:=skip (by rw [H6,Bool.not_true,Zbw])
     (refine Jr<|JA I<|Jn<|Jq<|Jd I fun au=>Jk<|Jq<|J0<|Jr<|ab (fY cu au) I<|ab (iU (eR.base aC I)) I<|Jz I I fun _ _=>ao (.of I) (.of I) .here I I (fv I I I) (bu I) ai<|Ji<|ab (cm bI) I<|Jv I<|bG I I ae<|JL I .here I<|aj eo I (fun w' aB=>(Dn w' (Mem.keeps aB)))<|Jv I<|JK I I<|ab (cm bI) I<|JK I I<|Jv I<|JK I I<|bG I I ae<|JK I I<|JL I .here I<|JK I I<|aj eo I (fun w' aB=>(r8 w' (Mem.keeps aB)))<|JK I I<|Jv I<|JK I I<|ab (wu (.of I) (.of I) Bk) I<|ab (fx (.of I) (.of I) (.of I) I) I<|Jv I<|JK I I<|Jv I<|JK I I<|bG I I ae<|JK I I<|JL I .here I<|JK I I<|aj bb I (fun w' aB=>(PT w' (lN aB (.there .here) Dq)))<|JK I I<|JH I<|ab (df (.of I) (.of I) (.of I) I) I<|Jn<|bZ (.of I)<|Jw<|Jj<|Jt<|Jg<|JB I (by omega)<|Jv I<|Jn ?_)
     apply aG (k+1,ov) (show k+1<=r.ti.length by omega) (show r.ti.length-(k+1)<r.ti.length-k by omega)
     case hs1=>exact bS
     case ht=>
      rw [WJ];exact .cons (.there .here) (.cons (.there .here) .nil)
    | false =>
     have PT:∀ (w':World),Rd w' ov 1 (ints L)->ak T_ 154 [ov,.q (r.ti[k]).to] w' (.bool false):=fun w' hr=>H6 ▸ Ml w' hr
     have mG:iD r v so (k+1)=L++[(r.ti[k]).to]:=by rw [hrs,H6];unfold yk;rw [tx,B4,decide_eq_true Bk];rfl
     have PH:(L.map (Value.int .i64)).length=L.length*1:=by rw [Zd,Zav]
     (refine Jr<|JA I<|Jn<|Jq<|Jd I fun au=>Jk<|Jq<|J0<|Jr<|ab (fY cu au) I<|ab (iU (eR.base aC I)) I<|Jz I I fun _ _=>ao (.of I) (.of I) .here I I (fv I I I) (bu I) ai<|Ji<|ab (cm bI) I<|Jv I<|bG I I ae<|JL I .here I<|aj eo I (fun w' aB=>(Dn w' (Mem.keeps aB)))<|Jv I<|JK I I<|ab (cm bI) I<|JK I I<|Jv I<|JK I I<|bG I I ae<|JK I I<|JL I .here I<|JK I I<|aj eo I (fun w' aB=>(r8 w' (Mem.keeps aB)))<|JK I I<|Jv I<|JK I I<|ab (wu (.of I) (.of I) Bk) I<|ab (fx (.of I) (.of I) (.of I) I) I<|Jv I<|JK I I<|Jv I<|JK I I<|bG I I ae<|JK I I<|JL I .here I<|JK I I<|aj bb I (fun w' aB=>(PT w' (lN aB (.there .here) Dq)))<|JK I I<|JH I<|ab (fx (.of I) (.of I) (.of I) I) I<|Jn<|cY (.of I)<|Jg<|Jv I<|bG I I ae<|JL I .here I<|a8 (aD (.o I .nil) I I I I) I fun _ _=>?_)
     refine bn (.of I) (.of I) bI .here ai (by rfl) (dG I) (by rfl) (by rfl) (by rfl) dW (by rfl) ?_;intro v';refine Ja I<|Jx<|Jj<|Jt<|Jg<|JB I (by omega)<|Jv I<|Jn ?_;apply aG (k+1,v') (show k+1<=r.ti.length by omega) (show r.ti.length-(k+1)<r.ti.length-k by omega)
     case hs1=>exact bS
     case ht=>
      rw [mG,Zg,Zt];exact .h1 (.cons bI .nil)
   ·have WJ:=skip (by unfold yk;rw [tx,B4,decide_eq_false Bk];rfl)
    (refine Jr<|JA I<|Jn<|Jq<|Jd I fun au=>Jk<|Jq<|J0<|Jr<|ab (fY cu au) I<|ab (iU (eR.base aC I)) I<|Jz I I fun _ _=>ao (.of I) (.of I) .here I I (fv I I I) (bu I) ai<|Ji<|ab (cm bI) I<|Jv I<|bG I I ae<|JL I .here I<|aj eo I (fun w' aB=>(Dn w' (Mem.keeps aB)))<|Jv I<|JK I I<|ab (cm bI) I<|JK I I<|Jv I<|JK I I<|bG I I ae<|JK I I<|JL I .here I<|JK I I<|aj eo I (fun w' aB=>(r8 w' (Mem.keeps aB)))<|JK I I<|Jv I<|JK I I<|ab (CO (.of I) (.of I) Bk) I<|ab (df (.of I) (.of I) (.of I) I) I<|Jv I<|jz I I I I<|aH I I inferInstance (fun hg bE=>(aq (.of I) ae)) I<|aH I I inferInstance (fun hg bE=>(ag (.bM bE I) (At.lit .here I))) I<|eS I I I I<|aH I I inferInstance (fun hg bE=>(eF (.bM bE I))) I<|ab (df (.of I) (.of I) (.of I) I) I<|Jn<|bZ (.of I)<|Jw<|Jj<|Jt<|Jg<|JB I (by omega)<|Jv I<|Jn ?_)
    apply aG (k+1,ov) (show k+1<=r.ti.length by omega) (show r.ti.length-(k+1)<r.ti.length-k by omega)
    case hs1=>exact bS
    case ht=>
     rw [WJ];exact .cons (.there .here) (.cons (.there .here) .nil)
 ·obtain rfl:k=r.ti.length:=by omega
  refine Jr<|JA I<|Jn<|Jq<|Jc I fun au=>Jp<|Jl<|Jo<|Jt<|Jr<|Jv I<|Ja I<|Jn<|Je ?_
  first | with_reducible apply aO | with_reducible apply aQ
  case he=>exact dI I I
  case hR=>
   intro w' aB;exact aF ov trivial (by exact .h1 .nil) aB I
end Go.Proofs.A1
namespace Go.Proofs.A1
open Go Go.SL Go.Shelf Go.RowKit
open Tryz
open Tryz renaming prog->T_
def sq (l:List Int):List Int:=l.mergeSort fun x y=>decide (x<=y)
theorem sn (l:List Int):(sq l).length=l.length:=List.length_mergeSort _
theorem Kx (l:List Int):List.Perm (sq l) l:=List.mergeSort_perm _ _
theorem Ov (l:List Int):(sq l).Pairwise (·<=·):=by
 have:=List.pairwise_mergeSort (le:=fun x y:Int=>decide (x<=y)) (fun a b c h1 h2=>by simp at *;omega) (fun a b=>by simp;omega) l
 exact this.imp fun h=>by simpa using h
theorem KW {α:Type} [Inhabited α] {enc:α->Value} {w:World} {g n:Nat} {os:Array Obj} {cur:Array Value} {e:TypeId} {fr:Nat×Nat} (d:Array α) (hb:w.heap[g]? = some (.cells cur e fr)) :
  (Go.Sort.grow (Go.Sort.putRow enc (Go.Sort.ahead w n) g 0 d) os).heap[g]? = some (.cells (Go.Sort.putCells enc 0 d cur) e fr):=by
 have hg:g<w.heap.size:=(Z1.1 hb).1;rw [Go.Sort.heap_grow_old _ _ (by simpa using hg)];simp [Go.Sort.putRow,Go.Sort.mapBlock,Go.Sort.ahead,Zbo,hb,Go.Sort.onCells]
theorem HF {α:Type} [Inhabited α] {enc:α->Value} {w:World} {g n:Nat} {os:Array Obj} (d:Array α):aJ [g] w (Go.Sort.grow (Go.Sort.putRow enc (Go.Sort.ahead w n) g 0 d) os):=by
 refine ⟨I,I,I,Nat.le_add_right _ _,by simp,fun k hk hne=>?_⟩;rw [Go.Sort.heap_grow_old _ _ (by simpa using hk)];have:g≠k:=fun e=>hne (by rw [e];simp)
 simp [Go.Sort.putRow,Go.Sort.mapBlock,Go.Sort.ahead,Zbo,this]
theorem Kt {α:Type} [Inhabited α] {enc:α->Value} (cur:Array Value) (ts:List α) (h:ts.length<=cur.size):(Go.Sort.putCells enc 0 ts.toArray cur).toList.take ts.length=ts.map enc:=by
 apply Zax;intro j;by_cases hj:j<ts.length
 ·rw [List.getElem?_take_of_lt hj,ZaM];simp [Go.Sort.putCells,hj,show j<cur.size by omega]
 ·rw [List.getElem?_take_eq_none (by omega),Zan (by simp;omega)]
variable {L L':List Int} {i:Nat} {l:List Int} {m:Int} {r:Ro} {so:ByteArray} {v:Int} {w:World}
theorem E0 {g:Nat} {cur:Array Value} {e:TypeId} (hb:w.heap[g]? = some (.cells cur e (0,0))) (ht:cur.toList.take l.length=l.map (Value.int .i64)):Go.Sort.Holds (Value.int .i64) w g 0 l.toArray:=by
 intro j hj;have ly:j<l.length:=by simpa using hj
 refine ⟨?_,by simp [World.frozen?,hb]⟩;have h1:(cur.toList.take l.length)[j]? = (l.map (Value.int .i64))[j]?:=by rw [ht]
 rw [List.getElem?_take_of_lt ly] at h1;simp only [World.cell?,hb,Zx];simp only [Option.isSome_none,ZaX,if_false];rw [ZaM] at h1;rw [h1];simp [ly]
theorem SI {v:Value} {n:Nat} {fp:List Nat} (hn:n=l.length) (hl:n<=1000000) (hs:cr (hp w) [row 3 1 v n (l.map (Value.int .i64))] fp) :
  bh T_ 156 [v] w fp (fun _:Unit=>True) (fun _=>.tuple #[]) (fun _=>[row 3 1 v n ((sq l).map (Value.int .i64))]):=by
 obtain ⟨f1,f2,rfl,h1,h2⟩:=hs;obtain rfl:f2=[]:=h2;obtain ⟨rfl,hlen,h1⟩:=h1;rw [ZN];rcases h1 with ⟨rfl,h0⟩ | ⟨g,cap,cur,rfl,hg,kS,kr,o9,ud⟩
 ·have mX:l=[]:=Z6 (by omega);refine (Any.slices_Sort_int_none Tryz.Gt none 0 w).mono fun e w' ⟨he,hw⟩=>?_;subst hw;refine ⟨(),he,trivial,.refl _ _,[],Zah,⟨[],[],I,⟨I,?_,.inl ⟨I,h0⟩⟩,I⟩,by simp⟩;rw [Zd,sn];omega
 ·rw [Zav] at o9 ud;have NJ:g<w.heap.size:=(Z1.1 hg).1;subst hn;refine (slices_Sort_int g 0 cap l w (E0 hg ud) NJ (by omega)).mono fun e w' ⟨he,m,os,hw⟩=>?_;subst hw;refine ⟨(),he,trivial,HF _,[g],by simp,⟨[g],[],I,⟨I,?_,.inr ⟨g,cap,_,I,KW _ hg,kS,kr,?_,?_⟩⟩,I⟩,by simp [Value.ownBlock]⟩
  ·rw [Zd,sn];omega
  ·simp [Go.Sort.putCells,o9]
  ·rw [Zav];have:=Kt (enc:=Value.int .i64) cur (sq l) (by rw [sn];omega);rw [sn] at this;exact this
def MN (r:Ro) (v:Int) (so de:ByteArray):Int:=if rq r v so de≠0 then rq r v so de else if Nu r v so (lo r de) then 24 else 0
def Ii (r:Ro) (v:Int) (so de:ByteArray):List Int:=if rq r v so de≠0 then [] else if Nu r v so (lo r de) then [] else xB r v so
theorem V7 (h:i<L.length) (cur:List Value):(L.map (Value.int .i64)++cur)[i*1]? = some (.q L[i]):=by
 rw [Zav,ZD (by rw [Zd];exact h),ZI,Zc h];rfl
structure xV (r:Ro) (v:Int) (so:ByteArray) (L:List Int) (m:Int) (L':List Int) (k:Nat):Prop where
 pre:L <+: L'
 nd:L'.Nodup
 rc:∀ x∈L',(dJ r r.po v so).Rc x
 dn:∀ j,j<k->∀ t,(fX r v m r.ti.length)[j]? = some t->(ig r t).to∈L'
theorem xV.Bz (dU:sg r) {v:Int} {so:ByteArray} (hs:so∈cK r) {L L':List Int} {m:Int} {k:Nat} (h:xV r v so L m L' k):L'.length<=4:=by
 have hl:=dU.lim;refine Gw h.nd fun x hx=>?_;have:=wB dU hs (h.rc x hx);omega
theorem xV.stay {k t:Nat} (h:xV r v so L m L' k) (ht:(fX r v m r.ti.length)[k]? = some t) (hc:(ig r t).to∈L'):xV r v so L m L' (k+1):=by
 refine ⟨h.pre,h.nd,h.rc,fun j hj t' HU=>?_⟩;by_cases e:j=k
 ·subst e;rw [ht] at HU;cases HU;exact hc
 ·exact h.dn j (by omega) t' HU
theorem xV.add {k t:Nat} (h:xV r v so L m L' k) (hm:m∈L) (ht:(fX r v m r.ti.length)[k]? = some t) (hc:¬ (ig r t).to∈L'):xV r v so L m (L'++[(ig r t).to]) (k+1):=by
 have gJ:=ZV ht;unfold fX at gJ;rw [Zr,ZX,rN v so,Zn,decide_eq_true_eq] at gJ;have hrc:(dJ r r.po v so).Rc (ig r t).to:=Wn.Rc.fe (N:=dJ r r.po v so) gJ.1 gJ.2.2 (by rw [gJ.2.1];exact h.rc m (h.pre.subset hm));have h2:xV r v so L m (L'++[(ig r t).to]) k:=by
  refine ⟨h.pre.trans (ZaY _ _),?_,fun x hx=>?_,fun j hj t' HU=>ZJ _ (h.dn j hj t' HU)⟩
  ·rw [ZK];refine ⟨h.nd,by simp,fun a ha b hb e=>?_⟩;rw [ZG] at hb;subst hb;subst e;exact hc ha
  ·rcases ZB.1 hx with hx | hx
   ·exact h.rc x hx
   ·rw [ZG.1 hx];exact hrc
 exact h2.stay ht (by simp)
theorem xW.next (h:xW r v so L i) (hi:L[i]? = some m) (hJ:xV r v so L m L' (fX r v m r.ti.length).length):xW r v so L' (i+1)/\i+1<=L'.length:=by
 have iw:=(Zl.1 hi).1;have xg:=hJ.pre.length_le;refine ⟨⟨hJ.nd,hJ.rc,fun x hx=>hJ.pre.subset (h.rt x hx),fun j x hj hx t ht hf=>?_⟩,by omega⟩;have TD:L[j]? = some x:=by
  rw [<- hx];obtain ⟨q,rfl⟩:=hJ.pre;rw [ZD (by omega)]
 by_cases e:j=i
 ·subst e;rw [hi] at TD;cases TD;have hm:t∈fX r v m r.ti.length:=by unfold fX;exact Zr.2 ⟨ZX.2 ht,hf⟩
  obtain ⟨q,hq,e⟩:=ZA hm;exact hJ.dn q hq t (by rw [Zc hq,e])
 ·exact hJ.pre.subset (h.dn j x (by omega) TD t ht hf)
set_option maxHeartbeats 2000000 in
theorem Yp {s d t p:Value} (v:Int) (so de:ByteArray) {w:World} (h:RR w r s d t p) (c8:og r):bh T_ 36 [RA r s d t p,.q v,.string so,.string de] w [] (fun _:Value=>True) (fun x=>.tuple #[x,.q (MN r v so de)]) (fun x=>[row 3 1 x (Ii r v so de).length ((Ii r v so de).map (Value.int .i64))]):=by
 obtain ⟨h1,h2,h3,h4⟩:=h.one;have nA:=h.de;obtain ⟨a3,ur,b3,o3,rfl,nb,gC,se,o9⟩:=nA;rw [bY] at *;unfold maxLen at gC;unfold RA;refine aR func36 I I ?_
 (refine Jr<|Jy I I fun _ _=>Ja I<|Ja I<|Jn<|Jq<|Jr<|ab (cm .here) I<|Jv I<|Jv I<|Jv I ?_)
 rename_i b4 uT;refine aj rZ I (fun w' aB=>rS (s:=s) (d:=.slice a3 r.de.length ur) (t:=t) (p:=p) v so de (h.keeps aB.keeps) c8) ?_
 (refine Ja I<|Ji<|Jv I<|JD I<|Jn<|gG I (fun au=>?_) fun au=>?_;refine Jr<|Jv I<|Ja I<|Ja I<|Jn<|Ju ?_;rotate_left;refine Jk<|Jr<|ab (cm .here) I<|Jv I<|Jv I ?_;rotate_right)
 ·have e1:Ii r v so de=[]:=if_pos au;have e2:MN r v so de=rq r v so de:=if_pos au;rw [e1,e2];refine aN 3 1 ?_
  first | with_reducible apply aO | with_reducible apply aQ
  case he=>exact gF I I I
  case hR=>
   intro w' aB;exact aF (.z) trivial (by exact .h1 .nil) aB I
 have e0:rq r v so de=0:=Zo.1 au;obtain ⟨dU,hv,rM,fO⟩:=Am e0;have e1:Ii r v so de=if Nu r v so (lo r de) then [] else xB r v so:=if_neg au
 have e2:MN r v so de=if Nu r v so (lo r de) then 24 else 0:=if_neg au
 clear au;have ht6:=dU.len.2.2;obtain ⟨j0,uS⟩:∃ i:Nat,bA (cy r) de=(i:Nat):=⟨(bA (cy r) de).toNat,by have:=dS fO;omega⟩;have Dh:j0<r.de.length:=by
  obtain ⟨hl,_⟩:=fB (l:=cy r) (s:=de) (by omega);rw [uS,ZL] at hl;unfold cy at hl;rwa [Zd] at hl
 have Xl:lo r de=(r.de[j0]).mx:=by unfold lo;rw [uS,ZL,Zk,Zc Dh];rfl
 have yG:∀ w',aJ [] w w'->ak T_ 155 [.agg #[.q r.lv,.q r.ma,s,.slice a3 r.de.length ur,t,p],.string de] w' (.q (j0:Nat)):=fun w' hk=>uS ▸ gL de (h.keeps hk)
 have yH:=se (iy Dh);have pX:=(o9 j0 _ (fN Dh)).2;unfold De.cells at pX;have Bo:=pX 1 _ I;rw [e1,e2];refine JN eo I (fun w1 aT=>Gc (s:=s) (d:=.slice a3 r.de.length ur) (t:=t) (p:=p) v so (h.keeps aT.keeps) (by omega) rM) ?_;intro rv _;dsimp only [id_eq,Zb,Za];refine aK (by exact .here) fun ra rc_ e=>?_;subst e;have hC:=xW.begin (v:=v) dU rM;generalize iD r v so r.ti.length=L0 at hC ⊢
 (refine Jz I I fun _ _=>ao (.of I) (.of I) .here I I (dG I) (bu I) ai<|Jn<|Jq<|Jr<|Ja I<|Jn<|J0 ?_)
 rename_i R3 acf
 refine FT (ι:=Nat×Value×List Int) (fun x=>xW r v so x.2.2 x.1/\x.1<=x.2.2.length) (fun x=>[(12,.q (x.1:Nat)),(11,.p R3),(4,.p b4),(1,.q v),(2,.string so),(3,.string de)])
  (fun x=>[bz R3 (.cells #[x.2.1] 49 (0,0)),row 3 1 x.2.1 x.2.2.length (x.2.2.map (Value.int .i64)),JP b4 r s (.slice a3 r.de.length ur) t p]) (fun x=>4-x.1) ?_ ?_
 ·apply y5 (0,.slice ra L0.length rc_,L0) ⟨hC,Zi _⟩
  case hs1=>exact bS
  case ht=>
   exact .h3 .nil
 rintro ⟨i,ov,L⟩ ⟨hC,hiL⟩ D;dsimp only at hC hiL ⊢;have h4L:=hC.Bz dU rM;have Dq:L.length=L.length:=rfl;refine aK (by exact Take.there .here) fun oa oc e=>?_;subst e;by_cases aM:i<L.length
 ·refine Jq<|Jr<|Jv I<|JL I .here I<|JI I<|JA I<|Jn<|Jd I fun au=>Jk<|Jq<|J0<|Jq ?_;refine dA (by exact Take.there .here) (by omega) fun g iz cur e oQ Da C7 yA=>?_;cases e;have c1:=V7 aM cur
  with_reducible refine cJ 6 (by kernel_rfl) ?_
  (refine ar (cm bI) I ?_;refine fW I I ?_;refine ar (iB (.there .here)) I ?_;refine fW I I ?_;refine ar (an (.of I) (.of I) I (by omega) au aW) I ?_;refine ar (ag (.of I) (At.mJ .here c1)) I ?_)
  with_reducible refine cN ?_
  refine dC (by exact .here) oQ Da C7 yA ?_
  with_reducible apply jZ
  case hr=>exact eo
  case hd=>rfl
  case ht=>exact bC.nil
  case hc=>
   intro w1 fp aT _ hs1;obtain rfl:fp=[]:=hs1;exact tT (s:=s) (d:=.slice a3 r.de.length ur) (t:=t) (p:=p) v L[i] (h.keeps aT.keeps)
  intro y _;dsimp only [id_eq,Zb,Za];refine Jn<|J0 ?_;have Dj:L[i]? = some L[i]:=Zc aM;have gJ:L[i]∈L:=Zj aM;generalize L[i]=m at Dj gJ ⊢
  refine kb (ps:=[40,41]) (f:=240) (first:=[]) (cap:=[.pointer (some ⟨y.1,0,none⟩),.pointer (some ⟨y.2.1,0,none⟩),.pointer (some ⟨y.2.2,0,none⟩)]) (ι:=Value×List Int) (κ:=Empty)
   (rst:=[JP b4 r s (.slice a3 r.de.length ur) t p]) ?hg
   [JP y.1 r s (.slice a3 r.de.length ur) t p,bz y.2.1 (.cells #[.q m] 3 (0,0)),bz y.2.2 (.cells #[.q v] 3 (0,0))] (Ny r v m) ?hit
   (fun k x=>xV r v so L m x.2 k)
   (fun x=>[bz R3 (.cells #[x.1] 49 (0,0)),row 3 1 x.1 x.2.length (x.2.map (Value.int .i64))])
   (fun _=>False) (fun _=>[]) (fun _=>.ret) (.w g L.length oc,L) ⟨List.prefix_rfl,hC.nd,hC.rc,fun j hj=>absurd hj (ZU _)⟩ ?ht ?hlen ?hps ?round ?kn ?kj
  case hg=>exact Is.of I
  case hit=>intro w' aB;exact Lo v m h RO.nil (by omega)
  case ht=>
   dsimp only [Zb,Za];exact .cons dL (.cons cZ (.h3 .nil))
  case hlen=>intro vs pQ;obtain ⟨x,_,rfl⟩:=Zy.1 pQ;rfl
  case hps=>intro t ht;simp only [ZT,Zp,or_false] at ht;rcases ht with rfl | rfl <;> exact ZaD rfl
  case kj=>intro y;cases y
  case kn=>
   rintro ⟨Q0,L2⟩ D2 hJ;dsimp only [Zb,Za] at hJ ⊢;rw [vC] at hJ;obtain ⟨hC2,abu⟩:=hC.next Dj hJ;refine Jj<|Jj<|Jt<|Jg<|Jv I<|JB I (by omega)<|Ja I<|Jn ?_;apply Ck (i+1,Q0,L2) ⟨hC2,abu⟩ (show 4-(i+1)<4-i by omega)
   case hs1=>exact bS
   case ht=>
    exact .h2 (.cons cZ .nil)
  case round=>
   rintro l2 rc W2 XR k ⟨Q0,L2⟩ vs hsz hk hJ hB hF;dsimp only at hJ;obtain ⟨QM,WD,rfl,iw,Uc⟩:=EP hk;have adp:=hJ.Bz dU rM;have Dq:L2.length=L2.length:=rfl;have PH:(L2.map (Value.int .i64)).length=L2.length*1:=by rw [Zd,Zav]
   have Ml:∀ (w':World) (Q0:Value),Rd w' Q0 1 (ints L2)->ak T_ 154 [Q0,.q (ig r QM).to] w' (.bool (L2.contains (ig r QM).to)):=fun w' Q0 hr=>mr _ hr
   dsimp only [Ti.cells,List.zip_cons_cons,List.zip_nil_right,ns,Zb,Za]
   (refine Jg<|Jz I I fun _ _=>ao (.of I) (.of I) .here I I (fv I I I) (bu I) ai<|Jn ?_)
   with_reducible apply nJ
   case ht=>exact Take.there .here
   refine aK (E:=3) (sz:=1) cZ fun va vc e=>?_;subst e
   (refine J0<|Jr<|JL I bI I<|bG I I ae<|JL I (.there .here) I ?_)
   cases H6:L2.contains (ig r QM).to with
   | true =>
    have PT:∀ (w':World),Rd w' (.slice va L2.length vc) 1 (ints L2)->ak T_ 154 [.slice va L2.length vc,.q (ig r QM).to] w' (.bool true):=fun w' hr=>H6 ▸ Ml w' _ hr
    (refine aj bb I (fun w' aB=>(PT w' (lN aB cZ Dq)))<|JH I<|Jn<|bZ (.of I)<|Jw<|Jj ?_)
    apply mO (.slice va L2.length vc,L2)
    case ht=>exact .here
    case hx=>exact hJ.stay WD (ZaN.1 H6)
    case h2=>exact .cons (.there .here) (.cons (.there .here) .nil)
   | false =>
    have PT:∀ (w':World),Rd w' (.slice va L2.length vc) 1 (ints L2)->ak T_ 154 [.slice va L2.length vc,.q (ig r QM).to] w' (.bool false):=fun w' hr=>H6 ▸ Ml w' _ hr
    (refine aj bb I (fun w' aB=>(PT w' (lN aB cZ Dq)))<|JH I<|Jn<|cY (.of I)<|Jg<|JL I bI I<|bG I I ae<|JL I (.there .here) I<|a8 (aD (.o I .nil) I I I I) I fun _ _=>?_)
    refine bn (.of I) (.of I) dL .here ai (by rfl) (dG I) (by rfl) (by rfl) (by rfl) dW (by rfl) ?_;intro v';refine aK (by exact .here) fun a' db e=>?_;subst e
    (refine ao (.of I) (.of I) dL I I (dG I) (bu I) ai<|Jx<|Jj ?_)
    apply mO (.slice a' (L2.length+1) db,L2++[(ig r QM).to])
    case ht=>exact cZ
    case hx=>exact hJ.add gJ WD (fun hm=>by rw [ZaN.2 hm] at H6;cases H6)
    case h2=>
     show bC _ [bz R3 (.cells #[.slice a' (L2.length+1) db] 49 (0,0)),row 3 1 (.slice a' (L2.length+1) db) (L2++[(ig r QM).to]).length ((L2++[(ig r QM).to]).map (Value.int .i64))] _;rw [Zg,Zt];exact .h2 .nil
 ·obtain rfl:i=L.length:=by omega
  have mZ:=hC.done dU rM;have hcb:L.contains (lo r de)=Nu r v so (lo r de):=by rw [ZaW,ZaN,mZ,KU]
  have PT:∀ (w':World),Rd w' (.slice oa L.length oc) 1 (ints L)->ak T_ 154 [.slice oa L.length oc,.q (r.de[j0]).mx] w' (.bool (Nu r v so (lo r de))):=fun w' hr=>by
   rw [<- hcb,Xl];exact mr _ hr
  refine Jq<|Jr<|Jv I<|JL I .here I<|JI I<|JA I<|Jn<|Jc I fun au=>Jp<|Jl<|Jo<|Jt<|Jq<|Jq ?_
  with_reducible refine cJ 10 (by kernel_rfl) ?_
  (refine ar (iB .here) I<|lU I I ae<|ar (iB bI) I<|ar (cm bI) I<|fW I I<|dp bb I (fun w' aB=>(yG w' (Mem.keeps aB)))<|ar (an (.of I) (.of I) yH (by omega) (by omega) aW) I<|lU I I ae<|ar (ag (.of I) (At.base Bo I)) I<|dp bb I (fun w' aB=>(PT w' (lN aB (.there .here) Dq))) ?_)
  with_reducible refine cN ?_
  cases hrb:Nu r v so (lo r de) with
  | true =>
   (refine Jn<|cY (.of I)<|Jr<|Ja I<|Ja I<|Jn<|Ju ?_)
   refine aN 3 1 ?_
   first | with_reducible apply aO | with_reducible apply aQ
   case he=>exact gF I I I
   case hR=>
    intro w' aB;exact aF (.z) trivial (by exact .h1 .nil) aB I
  | false =>
   (refine Jn<|bZ (.of I)<|Jk<|Jr<|JL I .here I ?_)
   with_reducible apply gq (As:=[row 3 1 (.slice oa L.length oc) L.length (L.map (Value.int .i64))])
   case hr=>exact bN
   case hd=>rfl
   case ht=>exact iQ
   case hc=>
    intro w1 Bv aT u7 hs1 Dr _;exact SI I (by omega) hs1
   intro _ _;have PA:sq L=xB r v so:=MM dU rM hC.nd mZ (Kx L) (Ov L);have YU:(xB r v so).length=L.length:=by rw [<- PA,sn]
   rw [PA];dsimp only [id_eq,Zb,Za];refine Ji<|JL I (.there .here) I<|Ja I<|Ja I<|Jn<|Je ?_
   first | with_reducible apply aO | with_reducible apply aQ
   case he=>exact gF I I I
   case hR=>
    intro w' aB;exact aF (.slice oa L.length oc) trivial (show bC _ [row 3 1 (.slice oa L.length oc) (xB r v so).length ((xB r v so).map (Value.int .i64))] _ by rw [YU];exact .h1 .nil) aB I
end Go.Proofs.A1
namespace Go.Proofs.A1
open Go Go.SL
open Tryz
open Tryz renaming prog->T_
variable {L:List Int} {P:Program} {af:Array Edge} {b:Nat} {c:Cx} {cap:List Value} {cv:Value} {dst:Option Tmp} {f:FuncId} {first:List Value} {g:Option (Nat×Bool)} {hs:List bd} {k:Nat} {l:List (ByteArray×Value)} {lv:Value} {p:Int->Bool} {pos:String} {r:Ro} {sl:aL} {w:World} {x y:Operand}
theorem LL {l:List Int} [bV T_ f] {w:World} (h:Rd w lv 1 (ints l)) (cF:∀ x∈l,∀ w',aJ [] w w'->ak T_ f (first++[.q x]++cap) w' (.bool (p x))) :
  ak T_ 247 [lv,.func (.func f) first.toArray cap.toArray] w (.q (iT p l)):=by
 obtain ⟨a,cp,b,o,rfl,dy,bT,ha,hc⟩:=h;rw [dz] at *;unfold maxLen at bT;refine ah func247 I I ?_;refine Jr<|Ja I<|Jn<|Jq<|Jr<|Jv I<|JI I<|Jv I<|Jn<|J0 ?_;refine aV (fun k:Nat=>k<=l.length/\∀ i,i<k->(l[i]?.map p).getD false=false) (fun k=>[(8,.int .i64 k),(7,.int .i64 l.length),(0,.slice a l.length cp),(1,.func (.func f) first.toArray cap.toArray)]) (fun _=>[]) (fun k=>l.length-k) ?_ ?_
 ·apply aI 0 ⟨Zi _,fun i h=>by omega⟩
  case hs1=>exact bS
  case ht=>(try simp only [Ze,Zf,Za]);exact .nil
 rintro k ⟨hk,hf⟩;by_cases aM:k<l.length
 ·have cu:=ha (kp aM);have c0:w.cell? ⟨b,o+k*1,none⟩=some (.q l[k]):=(hc k _ (jd aM)).2 0 _ I;have jK:=cF _ (Zj aM);have hps:(l[k]?.map p).getD false=p l[k]:=by simp [aM]
  (refine Jr<|JA I<|Jn<|Jq<|Jd I fun au=>Jk<|Jq<|J0<|Jr<|Jv I<|Ja I<|Ji<|Jv I<|Jv I<|Jv I<|ab (fY cu au) I<|ab (ag (.of I) (At.base c0 I)) I<|aj bN I (fun w' aB=>(jK w' (Mem.keeps aB)))<|Jn<|nW I (fun au=>?_) fun au=>?_;refine Jr<|Jv I<|Ja I<|Jn<|Je<|Jm<|Jh<|Jh<|Jm<|Jh<|JT ?_;rotate_left;refine Jw<|Jj<|Jt<|Jg<|JB I (by omega)<|Jv I<|Jn ?_;rotate_right)
  ·rw [gQ hf aM au]
  ·apply aG (k+1) ⟨by omega,fun i hi=>by
    by_cases e:i=k
    ·rw [e,hps];exact au
    ·exact hf i (by omega)⟩ (by omega)
   case hs1=>exact bS
   case ht=>(try simp only [Ze,Zf,Za]);exact .nil
 ·obtain rfl:k=l.length:=by omega
  refine Jr<|JA I<|Jn<|Jq<|Jc I fun au=>Jp<|Jl<|Jo<|Jt<|Jr<|Ja I<|Jn<|Je<|JT ?_;rw [fP hf]
theorem xo {l:List Int} [bV T_ f] {w:World} (h:Rd w lv 1 (ints l)) (cF:∀ x∈l,∀ w',aJ [] w w'->ak T_ f (first++[.q x]++cap) w' (.bool (p x))) :
  ak T_ 161 [lv,.func (.func f) first.toArray cap.toArray] w (.bool (l.any p)):=by
 have jK:∀ w',aJ [] w w'->ak T_ 247 [lv,.func (.func f) first.toArray cap.toArray] w' (.q (iT p l)):=fun w' hk=>
  LL (h.keeps hk) fun x hx w2 fo=>cF x hx w2 (hk.trans fo)
 rw [<- lf];refine ah func161 I I ?_
 (refine Jr<|Ja I<|Ji<|Jv I<|Jv I<|aj bb I (fun w' aB=>(jK w' (Mem.keeps aB)))<|JG I<|Ja I<|Jn<|Je<|JT ?_)
 rfl
theorem xD (x:Int) {b:Nat} {w:World} (h:Rd w cv 1 (ints L)) (f1:w.cell? ⟨b,0,none⟩=some cv) :
  ak T_ 157 [.q x,.p b] w (.bool (L.contains x)):=by
 have h1:=Rd.one h;refine ah func157 I I ?_
 (refine Jr<|Ja I<|Ji<|ab (ag (.of I) (At.base f1 I)) I<|Jv I ?_)
 refine aj bb I (fun w' aB=>mr x (h.keeps aB.keeps)) ?_;refine Ja I<|Jn<|Je<|JT ?_
 rfl
theorem xC (x:Int) {b b2:Nat} {w:World} (h:Rd w cv 1 (ints L)) (f1:w.cell? ⟨b,0,none⟩=some cv) (f2:w.cell? ⟨b2,0,none⟩=some (.func (.func 157) #[] #[.p b])) :
  ak T_ 158 [.q x,.p b2] w (.bool (!L.contains x)):=by
 refine ah func158 I I ?_
 (refine Jr<|Ja I<|Ji<|ab (ag (.of I) (At.base f2 I)) I<|Jv I ?_)
 refine aj bN I (fun w' aB=>xD x (h.keeps aB.keeps) (eL f1 I (by simp) aB.keeps)) ?_;refine JH I<|Ja I<|Jn<|Je<|JT ?_
 rfl
def uJ (r:Ro) (v:Int) (L:List Int) (x:Ti):Bool:=L.contains x.fr&&!L.contains x.to&&!gM r.po v x.nm
theorem UM {s d t p:Value} (v:Int) {cv:Value} {L:List Int} (x:Ti) {b b2 b3 b5 b6:Nat} {w:World} (hr:RR w r s d t p) (h:Rd w cv 1 (ints L)) (f1:w.cell? ⟨b,0,none⟩=some cv) (f2:w.cell? ⟨b2,0,none⟩=some (.func (.func 157) #[] #[.p b]))
  (f3:w.cell? ⟨b3,0,none⟩=some (.func (.func 158) #[] #[.p b2])) (hA:BR w b5 (RC r s d t p)) (f6:w.cell? ⟨b6,0,none⟩=some (.q v)) :
  ak T_ 160 [.agg x.cells.toArray,.p b2,.p b3,.p b5,.p b6] w (.bool (uJ r v L x)):=by
 have h1:=Rd.one hr.sr;have h2:=Rd.one hr.de;have h3:=Rd.one hr.ti;have h4:=Rd.one hr.po;have lj:∀ (j:Nat) (u:Value),[Value.int .i64 r.lv,.q r.ma,s,d,t,p][j]? = some u->w.cell? ⟨b5,0+j,none⟩=some u:=hA;unfold Ti.cells;refine ah func160 I I ?_
 (refine Jr<|Jy I I fun _ _=>Ja I<|Ji<|ab (ag (.of I) (At.base f2 I)) I<|bG I I ae<|JL I .here I ?_)
 cases kS:L.contains x.fr with
 | false =>
  have hB:uJ r v L x=false:=by unfold uJ;rw [kS];rfl
  rw [hB];refine aj bN I (fun w' aB=>kS ▸ xD x.fr (h.keeps aB.keeps) (eL f1 I (by simp) aB.keeps)) ?_
  (refine Jv I<|aH I I inferInstance (fun hg bE=>(ag (.of I) (At.base f3 I))) I<|aH I I inferInstance (fun hg bE=>(aq (.of I) ae)) I<|aH I I inferInstance (fun hg bE=>(ag (.bM bE I) (At.lit .here I))) I<|eS I I I I<|ab (df (.of I) (.of I) (.of I) I) I<|Jv I<|aH I I inferInstance (fun hg bE=>(ja (.of I) (eR.base lj I) I)) I<|aH I I inferInstance (fun hg bE=>(ag (.of I) (At.base f6 I))) I<|aH I I inferInstance (fun hg bE=>(aq (.of I) ae)) I<|aH I I inferInstance (fun hg bE=>(ag (.bM bE I) (At.lit .here I))) I<|eS I I I I<|aH I I inferInstance (fun hg bE=>(eF (.bM bE I))) I<|ab (df (.of I) (.of I) (.of I) I) I<|Ja I<|Jn<|Je<|JT ?_)
  rfl
 | true =>
  have hB:uJ r v L x=(!L.contains x.to&&!gM r.po v x.nm):=by unfold uJ;rw [kS];rfl
  rw [hB];refine aj bN I (fun w' aB=>kS ▸ xD x.fr (h.keeps aB.keeps) (eL f1 I (by simp) aB.keeps)) ?_
  (refine Jv I<|JK I I<|ab (ag (.of I) (At.base f3 I)) I<|JK I I<|bG I I ae<|JK I I<|JL I .here I<|JK I I ?_)
  cases kr:L.contains x.to with
  | true =>
   with_reducible apply aj
   case hr=>exact bN
   case hd=>rfl
   case hc=>
    intro w' aB;have q:=xC x.to (h.keeps aB.keeps) (eL f1 I (by simp) aB.keeps) (eL f2 I (by simp) aB.keeps);rw [kr] at q;exact q
   (refine ab (df (.of I) (.of I) (.of I) I) I<|Jv I<|aH I I inferInstance (fun hg bE=>(ja (.of I) (eR.base lj I) I)) I<|aH I I inferInstance (fun hg bE=>(ag (.of I) (At.base f6 I))) I<|aH I I inferInstance (fun hg bE=>(aq (.of I) ae)) I<|aH I I inferInstance (fun hg bE=>(ag (.bM bE I) (At.lit .here I))) I<|eS I I I I<|aH I I inferInstance (fun hg bE=>(eF (.bM bE I))) I<|ab (df (.of I) (.of I) (.of I) I) I<|Ja I<|Jn<|Je<|JT ?_)
   rfl
  | false =>
   with_reducible apply aj
   case hr=>exact bN
   case hd=>rfl
   case hc=>
    intro w' aB;have q:=xC x.to (h.keeps aB.keeps) (eL f1 I (by simp) aB.keeps) (eL f2 I (by simp) aB.keeps);rw [kr] at q;exact q
   (refine ab (fx (.of I) (.of I) (.of I) I) I<|Jv I<|JK I I<|ab (iU (eR.base lj I)) I<|JK I I<|ab (ag (.of I) (At.base f6 I)) I<|JK I I<|bG I I ae<|JK I I<|JL I .here I<|JK I I ?_)
   cases hb:gM r.po v x.nm with
   | true =>
    with_reducible apply aj
    case hr=>exact eo
    case hd=>rfl
    case hc=>
     intro w' aB;have q:=rV v x.nm (hr.keeps aB.keeps);rw [hb] at q;exact q
    (refine JK I I<|JH I<|ab (df (.of I) (.of I) (.of I) I) I<|Ja I<|Jn<|Je<|JT ?_)
    rfl
   | false =>
    with_reducible apply aj
    case hr=>exact eo
    case hd=>rfl
    case hc=>
     intro w' aB;have q:=rV v x.nm (hr.keeps aB.keeps);rw [hb] at q;exact q
    (refine JK I I<|JH I<|ab (fx (.of I) (.of I) (.of I) I) I<|Ja I<|Jn<|Je<|JT ?_)
    rfl
theorem bo {α:Type} {l:List Oper} {i:Nat} {v:α}:ni l i (fun _=>v):=fun _ _ _=>rfl
def C3 (L:List Int) (k:Nat):Int:=if k=0 then -1 else L.getD (k-1) 0
theorem EU (h:k<L.length):C3 L (k+1)=L[k]:=by
 unfold C3;rw [if_neg (by omega),ZaA,Zk,Zc h];rfl
def VE (r:Ro) (L:List Int) (k:Nat):Int:=(L[k]?.map fun x=>aZ [fM r x,cn (decide (x<=C3 L k)) 11]).getD 0
theorem UN (h:k<L.length):VE r L k=aZ [fM r L[k],cn (decide (L[k]<=C3 L k)) 11]:=by
 unfold VE;rw [Zc h];rfl
def ctA (r:Ro) (v:Int) (so de:ByteArray) (L:List Int):Int:=aZ [rq r v so de,cn (decide ((4:Int)<(L.length:Nat))) 5]
def VC (r:Ro) (L:List Int):Int:=ku (VE r L) L.length
def VB (r:Ro) (v:Int) (so de:ByteArray) (L:List Int):Bool:=r.ti.any (uJ r v L)||(iD r v so r.ti.length).any (fun x=>!L.contains x)||L.contains (lo r de)
def ctX (r:Ro) (v:Int) (so de:ByteArray) (L:List Int):Int:=if ctA r v so de L≠0 then ctA r v so de L else if VC r L≠0 then VC r L else cn (VB r v so de L) 19
set_option maxHeartbeats 2000000 in
theorem FB {s d t p cv:Value} (v:Int) (so de:ByteArray) {L:List Int} {w:World} (h:RR w r s d t p) (c8:og r) (hw:Rd w cv 1 (ints L)) :
  ak T_ 37 [RA r s d t p,.q v,.string so,.string de,cv] w (.q (ctX r v so de L)):=by
 obtain ⟨h1,h2,h3,h4⟩:=h.one;have BZ:=hw;obtain ⟨aw,cw,bw,ow,rfl,Rw,Dc,Xw,Mj⟩:=hw;rw [dz] at *;unfold maxLen at Dc;have hcw:∀ w',aJ [] w w'->ak T_ 151 [.agg #[.int .i64 r.lv,.int .i64 r.ma,s,d,t,p],.int .i64 v,.string so,.string de] w' (.int .i64 (rq r v so de)):=fun w' hk=>rS v so de (h.keeps hk) c8
 unfold RA;refine ah func37 I I ?_;refine Jr<|Jy I I fun _ _=>Jy I I fun _ _=>Jy I I fun _ _=>Ja I<|Jn<|Jq<|Jq ?_
 with_reducible refine di 10 (by kernel_rfl) ?_
 (refine az (cm bI) I<|az (iB (.there .here)) I<|az mB I<|az mB I<|aY rZ I (fun w' aB=>(hcw w' (Mem.keeps aB)))<|az (iB .here) I<|az (cq (.of I)) I<|az (nr (.of I) (.of I)) I<|aY bb I (fun w' aB=>(eE _ 5 w'))<|eN (aD (.o I (.o I .nil)) I I I I) I I ?_)
 with_reducible refine dN I fun bq nf=>?_
 (refine aj bN I (fun w' aB=>(ee (Mem.dH aB .here I I) (cg.cons (cg.cons cg.nil))))<|Ja I<|Ji<|Jv I<|JD I<|Jn<|gG I (fun au=>?_) fun au=>?_;refine Jr<|Jv I<|Ja I<|Jn<|Ju<|JT ?_;rotate_left;refine Jk<|Jr<|Ja I<|Jn<|Jq<|Jr<|JL I (.there .here) I<|JI I<|Jv I<|Jn<|J0 ?_;rotate_right)
 ·have e1:ctX r v so de L=ctA r v so de L:=if_pos au;rw [e1];rfl
 have GG:ctA r v so de L=0:=Zo.1 au;have hX:ctX r v so de L=if VC r L≠0 then VC r L else cn (VB r v so de L) 19:=if_neg au
 clear au;obtain ⟨dU,hv,rM,fO⟩:=Am (cI.1 GG _ Zs);have h6:L.length<=4:=by
  have:=(bW (by decide)).1 (cI.1 GG (cn (decide ((4:Int)<(L.length:Nat))) 5) (by simp));simp only [decide_eq_false_iff_not] at this;omega
 have ht6:=dU.len.2.2;rename_i b5 H7 b6 hb6 b9 hb9
 refine aV (fun k:Nat=>k<=L.length/\∀ i,i<k->VE r L i=0) (fun k=>[(35,.q (k:Nat)),(34,.q (L.length:Nat)),(33,.slice aw L.length cw),(12,.q (C3 L k)),(9,.p b9),(6,.p b6),(5,.p b5),(2,.string so),(3,.string de)])
  (fun k=>[bz b9 (.cells #[.slice aw L.length cw] 49 (0,0)),bz b6 (.cells #[.q v] 3 (0,0)),JP b5 r s d t p]) (fun k=>L.length-k) ?_ ?_
 ·apply aI 0 ⟨Zi _,fun i hi=>by omega⟩
  case hs1=>exact bS
  case ht=>(try simp only [Ze,Zf,Za]);exact .cons (.there .here) (.cons (.there .here) (.cons (.there .here) .nil))
 rintro k ⟨hk,hf⟩;by_cases aM:k<L.length
 ·have Mn:=Xw (kp aM);have c0:w.cell? ⟨bw,ow+k*1,none⟩=some (.q L[k]):=(Mj k _ (jd aM)).2 0 _ I;have jA:=UN (r:=r) aM;have hhs:∀ w',aJ [] w w'->ak T_ 136 [.agg #[.q r.lv,.q r.ma,s,d,t,p],.q L[k]] w' (.q (fM r L[k])):=fun w' hk=>GD (s:=s) (d:=d) (t:=t) (p:=p) L[k] h
  (refine Jr<|JA I<|Jn<|Jq<|Jd I fun au=>Jk<|Jq<|J0<|Jr<|ab (an (.of I) (.of I) Mn (by omega) au aW) I<|ab (ag (.of I) (At.base c0 I)) I<|Ja I<|Jn<|Jq<|Jr<|ab (cm bI) I<|Jv I<|aj bb I (fun w' aB=>(hhs w' (Mem.keeps aB)))<|Jv I<|Jv I<|JF I<|aj bb I (fun w' aB=>(eE _ 11 w'))<|a8 (aD (.o I (.o I .nil)) I I I I) I fun _ _=>aj bN I (fun w' aB=>(ee (Mem.dH aB .here I I) (cg.cons (cg.cons cg.nil))))<|Ja I<|Ji<|Jv I<|JD I<|Jn<|gG I (fun au=>?_) fun au=>?_;refine Jr<|Jv I<|Ja I<|Jn<|Ju<|Jm<|Jh<|Jh<|Jm<|Jh<|JT ?_;rotate_left;refine Jk<|Jg<|Jv I<|Ja I<|Jx<|Jj<|Jt<|Jg<|JB I (by omega)<|Jv I<|Jn ?_;rotate_right)
  ·rw [<- jA] at au ⊢;have hB:VC r L=VE r L k:=fI hf aM au;rw [<- hB] at au ⊢;rw [hX,if_pos au]
  have hz:VE r L k=0:=by rw [jA];exact Zo.1 au
  have vG:=EU aM;apply aG (k+1) ⟨by omega,fun i hi=>by
   by_cases e:i=k
   ·rw [e];exact hz
   ·exact hf i (by omega)⟩ (by omega)
  case hs1=>rw [vG];exact .cons I (.cons I (.cons I (.cons I (.cons I (.cons I (.cons I (.cons I (.cons I .nil))))))))
  case ht=>exact iQ
 ·obtain rfl:k=L.length:=by omega
  have XI:VC r L=0:=ew.2 hf;rw [hX,if_neg (by rw [XI];decide)]
  (refine Jr<|JA I<|Jn<|Jq<|Jc I fun au=>Jp<|Jl<|Jo<|Jt<|Jr<|ab (bD .nil (.o I .nil)) I<|Jz I I fun _ _=>ao (.of I) (.of I) .here I I (dG I) (bu I) ai<|Ji<|ab (bD .nil (.o I .nil)) I<|Jz I I fun _ _=>ao (.of I) (.of I) .here I I (dG I) (bu I) ai<|Ji<|bG I I ae<|JL I dL I<|ab (bD .nil (.o I (.o I (.o I (.o I .nil))))) I ?_)
  rename_i IX aif b17 aie
  with_reducible apply aj
  case hr=>exact bb
  case hd=>rfl
  case hc=>
   intro w' aB;have hR:=h.keeps aB.keeps;have f9:w'.cell? ⟨b9,0,none⟩=some (.slice aw L.length cw):=At.lit bI I w' aB;have f16:w'.cell? ⟨IX,0,none⟩=some (.func (.func 157) #[] #[.p b9]):=At.lit (by exact Take.there .here) I w' aB;have f17:w'.cell? ⟨b17,0,none⟩=some (.func (.func 158) #[] #[.p IX]):=At.lit (by exact .here) I w' aB;have f6:w'.cell? ⟨b6,0,none⟩=some (.q v):=At.lit cZ I w' aB;have hA:BR w' b5 [.q r.lv,.q r.ma,s,d,t,p]:=BR.of aB dL;exact Bp (f:=160) (p:=uJ r v L) (first:=[]) (cap:=[.p IX,.p b17,.p b5,.p b6]) hR.ti (fun x hx w2 fo=>UM v x (hR.keeps fo) (BZ.keeps (aB.keeps.trans fo)) (cG f9 I fo) (cG f16 I fo) (cG f17 I fo) (hA.keeps fo) (cG f6 I fo))
  refine Ja I<|Jn<|Jq ?_;cases mW:r.ti.any (uJ r v L) with
  | true =>
   have hC:VB r v so de L=true:=by unfold VB;rw [mW];rfl
   rw [hC]
   with_reducible refine dO 23 (by kernel_rfl) ?_
   (refine aA (fun β=>(aS (.of I))) dR I<|aA (fun β=>(aS (.of I))) dR I<|dX I (fun _=>rfl) (Or.inr I) I<|dX I (fun _=>rfl) (Or.inr I) I<|dX I (fun _=>rfl) (Or.inr I) I<|dX I (fun _=>rfl) (Or.inr I) I<|dX I (fun _=>rfl) (Or.inr I) I<|dX I (fun _=>rfl) (Or.inr I) I<|aA (fun β=>(fx (.of I) (.of I) (.of I) I)) dR I<|aA (fun β=>(aS (.of I))) dR I<|dX I (fun _=>rfl) (Or.inr I) I<|dX I (fun _=>rfl) (Or.inr I) I<|dX I (fun _=>rfl) (Or.inr I) I<|dX I (fun _=>rfl) (Or.inr I) I<|dX I (fun _=>rfl) (Or.inr I) I<|dX I (fun _=>rfl) (Or.inr I) I<|dX I (fun _=>rfl) (Or.inr I) I<|dX I (fun _=>rfl) (Or.inr I) I<|dX I (fun _=>rfl) (Or.inr I) I<|dX I (fun _=>rfl) (Or.inr I) I<|aA (fun β=>(fx (.of I) (.of I) (.of I) I)) dR I ?_)
   dsimp only [Nat.zero_add,Nat.reduceAdd]
   with_reducible apply c7 (B:=[]) (F:=fun _=>.q (cn true 19)) (args:=fun _=>[.bool true,.q 19])
   case hB=>rfl
   case hr=>exact fun β=>bj (.of I) (.o I (.o I .nil)) inferInstance I
   case hi=>exact bo
   case hd=>rfl
   case hc=>exact fun β w' hb=>eE _ _ _
   refine aA (fun β=>(cC (.of I))) dR I ?_;refine fq fun β=>?_;dsimp only [ez,Za,Zb,List.append_eq,Nat.reduceAdd]
   with_reducible refine cE (by kernel_rfl) ?_
   refine Jt<|Je<|JT ?_
   rfl
  | false =>
   have hC:VB r v so de L=((iD r v so r.ti.length).any (fun x=>!L.contains x)||L.contains (lo r de)):=by unfold VB;rw [mW];rfl
   rw [hC];obtain ⟨j0,uS⟩:∃ i:Nat,bA (cy r) de=(i:Nat):=⟨(bA (cy r) de).toNat,by have:=dS fO;omega⟩;have Dh:j0<r.de.length:=by
    obtain ⟨hl,_⟩:=fB (l:=cy r) (s:=de) (by omega);rw [uS,ZL] at hl;unfold cy at hl;rwa [Zd] at hl
   have Xl:lo r de=(r.de[j0]).mx:=by unfold lo;rw [uS,ZL,Zk,Zc Dh];rfl
   have PD:∀ w',aJ [] w w'->bh T_ 152 [.agg #[.q r.lv,.q r.ma,s,d,t,p],.q v,.string so] w' [] (fun _:Value=>True) id (fun x=>[row 3 1 x (iD r v so r.ti.length).length ((iD r v so r.ti.length).map (Value.int .i64))]):=fun w' hk=>Gc (s:=s) (d:=d) (t:=t) (p:=p) v so (h.keeps hk) (by omega) rM
   have yG:∀ w',aJ [] w w'->ak T_ 155 [.agg #[.q r.lv,.q r.ma,s,d,t,p],.string de] w' (.q (j0:Nat)):=fun w' hk=>uS ▸ gL de (h.keeps hk)
   generalize iD r v so r.ti.length=R0 at PD ⊢;cases hro:R0.any (fun x=>!L.contains x) with
   | true =>
    rw [Bool.true_or]
    with_reducible refine dO 23 (by kernel_rfl) ?_
    (refine aA (fun β=>(aS (.of I))) dR I<|aA (fun β=>(aS (.of I))) dR I<|dq I (fun _=>rfl)<|aA (fun β=>(bK (.of I) dL ai (by rfl))) dR I<|dq I (fun _=>rfl)<|aA (fun β=>(ag (.of I) (At.lit cZ I))) dR I<|dq I (fun _=>rfl)<|aA (fun β=>(aS (.of I))) dR I ?_)
    dsimp only [Nat.zero_add,Nat.reduceAdd];refine dq I (fun _=>rfl) ?_
    with_reducible apply fC (ι:=Value) (Φ:=fun _=>True) (val:=id) (own:=fun x=>[row 3 1 x R0.length (R0.map (Value.int .i64))]) (g:=id) (B:=[]) (args:=fun _=>[.agg #[.q r.lv,.q r.ma,s,d,t,p],.q v,.string so])
    case hg=>exact fun x=>⟨x,I⟩
    case hB=>rfl
    case hr=>exact fun β=>bj (.of I) (.o I (.o I (.o I .nil))) inferInstance I
    case hd=>rfl
    case hc=>exact fun β w' hb=>PD w' hb.mem.keeps
    dsimp only [id_eq,Nat.reduceAdd]
    (refine dq I (fun _=>rfl)<|aA (fun β=>(ag (.of I) (At.lit .here I))) dR I ?_)
    dsimp only [Nat.zero_add,Nat.reduceAdd];refine dq I (fun _=>rfl) ?_
    with_reducible apply c7 (B:=[5]) (F:=fun _=>.bool true) (args:=fun β=>[β 5,.func (.func 158) #[] #[.p IX]])
    case hB=>first | rfl | kernel_rfl
    case hr=>exact fun β=>bj (.of I) (.o I (.o I .nil)) inferInstance I
    case hi=>exact bo
    case hd=>rfl
    case hc=>
     intro β w' hb;have m5:=hb.at 5 Zs (s:=⟨fun β=>β 5,fun β=>[row 3 1 (β 5) R0.length (R0.map (Value.int .i64))]⟩) (by kernel_rfl)
     dsimp only [Zb,Za] at m5;have s1:Rd w' (β 5) 1 (ints R0):=lN m5 (by exact .here) I;have f9:w'.cell? ⟨b9,0,none⟩=some (.slice aw L.length cw):=At.lit cZ I w' m5;have f16:w'.cell? ⟨IX,0,none⟩=some (.func (.func 157) #[] #[.p b9]):=At.lit bI I w' m5;have q:=xo (f:=158) (p:=fun x=>!L.contains x) (first:=[]) (cap:=[.p IX]) s1 (fun x hx w2 fo=>xC x (BZ.keeps (hb.mem.keeps.trans fo)) (cG f9 I fo) (cG f16 I fo))
     rw [hro] at q;exact q
    (refine aA (fun β=>(fx (.of I) (.of I) (.of I) I)) dR I<|aA (fun β=>(aS (.of I))) dR I<|dX I (fun _=>rfl) (Or.inr I) I<|dX I (fun _=>rfl) (Or.inr I) I<|dX I (fun _=>rfl) (Or.inr I) I<|dX I (fun _=>rfl) (Or.inr I) I<|dX I (fun _=>rfl) (Or.inr I) I<|dX I (fun _=>rfl) (Or.inr I) I<|dX I (fun _=>rfl) (Or.inr I) I<|dX I (fun _=>rfl) (Or.inr I) I<|dX I (fun _=>rfl) (Or.inr I) I<|dX I (fun _=>rfl) (Or.inr I) I<|aA (fun β=>(fx (.of I) (.of I) (.of I) I)) dR I ?_)
    dsimp only [Nat.zero_add,Nat.reduceAdd]
    with_reducible apply c7 (B:=[]) (F:=fun _=>.q (cn true 19)) (args:=fun _=>[.bool true,.q 19])
    case hB=>rfl
    case hr=>exact fun β=>bj (.of I) (.o I (.o I .nil)) inferInstance I
    case hi=>exact bo
    case hd=>rfl
    case hc=>exact fun β w' hb=>eE _ _ _
    refine aA (fun β=>(cC (.of I))) dR I ?_;refine fq fun β=>?_;dsimp only [ez,Za,Zb,List.append_eq,Nat.reduceAdd]
    with_reducible refine cE (by kernel_rfl) ?_
    refine Jt<|Je<|JT ?_
    rfl
   | false =>
    rw [Bool.false_or];have nA:=h.de;obtain ⟨a3,ur,b3,o3,rfl,nb,gC,se,o9⟩:=nA;rw [bY] at *;unfold maxLen at gC;have yH:=se (iy Dh);have pX:=(o9 j0 _ (fN Dh)).2;unfold De.cells at pX;have Bo:=pX 1 _ I;rw [<- Xl] at Bo;cases YU:L.contains (lo r de) with
    | true =>
     with_reducible refine dO 23 (by kernel_rfl) ?_
     (refine aA (fun β=>(aS (.of I))) dR I<|aA (fun β=>(aS (.of I))) dR I<|dq I (fun _=>rfl)<|aA (fun β=>(bK (.of I) dL ai (by rfl))) dR I<|dq I (fun _=>rfl)<|aA (fun β=>(ag (.of I) (At.lit cZ I))) dR I<|dq I (fun _=>rfl)<|aA (fun β=>(aS (.of I))) dR I ?_)
     dsimp only [Nat.zero_add,Nat.reduceAdd];refine dq I (fun _=>rfl) ?_
     with_reducible apply fC (ι:=Value) (Φ:=fun _=>True) (val:=id) (own:=fun x=>[row 3 1 x R0.length (R0.map (Value.int .i64))]) (g:=id) (B:=[]) (args:=fun _=>[.agg #[.q r.lv,.q r.ma,s,.slice a3 r.de.length ur,t,p],.q v,.string so])
     case hg=>exact fun x=>⟨x,I⟩
     case hB=>rfl
     case hr=>exact fun β=>bj (.of I) (.o I (.o I (.o I .nil))) inferInstance I
     case hd=>rfl
     case hc=>exact fun β w' hb=>PD w' hb.mem.keeps
     dsimp only [id_eq,Nat.reduceAdd]
     (refine dq I (fun _=>rfl)<|aA (fun β=>(ag (.of I) (At.lit .here I))) dR I ?_)
     dsimp only [Nat.zero_add,Nat.reduceAdd];refine dq I (fun _=>rfl) ?_
     with_reducible apply c7 (B:=[5]) (F:=fun _=>.bool false) (args:=fun β=>[β 5,.func (.func 158) #[] #[.p IX]])
     case hB=>first | rfl | kernel_rfl
     case hr=>exact fun β=>bj (.of I) (.o I (.o I .nil)) inferInstance I
     case hi=>exact bo
     case hd=>rfl
     case hc=>
      intro β w' hb;have m5:=hb.at 5 Zs (s:=⟨fun β=>β 5,fun β=>[row 3 1 (β 5) R0.length (R0.map (Value.int .i64))]⟩) (by kernel_rfl)
      dsimp only [Zb,Za] at m5;have s1:Rd w' (β 5) 1 (ints R0):=lN m5 (by exact .here) I;have f9:w'.cell? ⟨b9,0,none⟩=some (.slice aw L.length cw):=At.lit cZ I w' m5;have f16:w'.cell? ⟨IX,0,none⟩=some (.func (.func 157) #[] #[.p b9]):=At.lit bI I w' m5;have q:=xo (f:=158) (p:=fun x=>!L.contains x) (first:=[]) (cap:=[.p IX]) s1 (fun x hx w2 fo=>xC x (BZ.keeps (hb.mem.keeps.trans fo)) (cG f9 I fo) (cG f16 I fo))
      rw [hro] at q;exact q
     (refine aA (fun β=>(df (.of I) (.of I) (.of I) I)) dR I<|aA (fun β=>(aS (.of I))) dR I<|dq I (fun _=>rfl)<|aA (fun β=>(ag (.of I) (At.lit (.there .here) I))) dR I<|dq I (fun _=>rfl)<|aA (fun β=>(aq (.of I) ae)) dR I<|dq I (fun _=>rfl)<|aA (fun β=>(ag (.of I) (At.lit dL I))) dR I<|dq I (fun _=>rfl)<|aA (fun β=>(bK (.of I) dL ai (by rfl))) dR I<|dq I (fun _=>rfl)<|aA (fun β=>(aS (.of I))) dR I ?_)
     dsimp only [Nat.zero_add,Nat.reduceAdd];refine dq I (fun _=>rfl) ?_
     with_reducible apply c7 (B:=[]) (F:=fun _=>.q (j0:Nat)) (args:=fun _=>[.agg #[.q r.lv,.q r.ma,s,.slice a3 r.de.length ur,t,p],.string de])
     case hB=>rfl
     case hr=>exact fun β=>bj (.of I) (.o I (.o I .nil)) inferInstance I
     case hi=>exact bo
     case hd=>rfl
     case hc=>exact fun β w' hb=>yG w' hb.mem.keeps
     (refine dq I (fun _=>rfl)<|aA (fun β=>(an (.of I) (.of I) yH (by omega) (by omega) aW)) dR I<|dq I (fun _=>rfl)<|aA (fun β=>(aq (.of I) ae)) dR I<|dq I (fun _=>rfl)<|aA (fun β=>(ag (.of I) (At.base Bo I))) dR I ?_)
     dsimp only [Nat.zero_add,Nat.reduceAdd];refine dq I (fun _=>rfl) ?_
     with_reducible apply c7 (B:=[]) (F:=fun _=>.bool true) (args:=fun _=>[.q (lo r de),.p b9])
     case hB=>rfl
     case hr=>exact fun β=>bj (Is.of I) (IA.cons (Is.of I) IA.nil) inferInstance eY
     case hi=>exact bo
     case hd=>rfl
     case hc=>
      intro β w' hb;have m5:=hb.mem;have f9:w'.cell? ⟨b9,0,none⟩=some (.slice aw L.length cw):=At.lit bI I w' m5;have q:=xD (lo r de) (BZ.keeps hb.mem.keeps) f9;rw [YU] at q;exact q
     refine aA (fun β=>(fx (.of I) (.of I) (.of I) I)) dR I ?_;dsimp only [Nat.zero_add,Nat.reduceAdd]
     with_reducible apply c7 (B:=[]) (F:=fun _=>.q (cn true 19)) (args:=fun _=>[.bool true,.q 19])
     case hB=>rfl
     case hr=>exact fun β=>bj (.of I) (.o I (.o I .nil)) inferInstance I
     case hi=>exact bo
     case hd=>rfl
     case hc=>exact fun β w' hb=>eE _ _ _
     refine aA (fun β=>(cC (.of I))) dR I ?_;refine fq fun β=>?_;dsimp only [ez,Za,Zb,List.append_eq,Nat.reduceAdd]
     with_reducible refine cE (by kernel_rfl) ?_
     refine Jt<|Je<|JT ?_
     rfl
    | false =>
     with_reducible refine dO 23 (by kernel_rfl) ?_
     (refine aA (fun β=>(aS (.of I))) dR I<|aA (fun β=>(aS (.of I))) dR I<|dq I (fun _=>rfl)<|aA (fun β=>(bK (.of I) dL ai (by rfl))) dR I<|dq I (fun _=>rfl)<|aA (fun β=>(ag (.of I) (At.lit cZ I))) dR I<|dq I (fun _=>rfl)<|aA (fun β=>(aS (.of I))) dR I ?_)
     dsimp only [Nat.zero_add,Nat.reduceAdd];refine dq I (fun _=>rfl) ?_
     with_reducible apply fC (ι:=Value) (Φ:=fun _=>True) (val:=id) (own:=fun x=>[row 3 1 x R0.length (R0.map (Value.int .i64))]) (g:=id) (B:=[]) (args:=fun _=>[.agg #[.q r.lv,.q r.ma,s,.slice a3 r.de.length ur,t,p],.q v,.string so])
     case hg=>exact fun x=>⟨x,I⟩
     case hB=>rfl
     case hr=>exact fun β=>bj (.of I) (.o I (.o I (.o I .nil))) inferInstance I
     case hd=>rfl
     case hc=>exact fun β w' hb=>PD w' hb.mem.keeps
     dsimp only [id_eq,Nat.reduceAdd]
     (refine dq I (fun _=>rfl)<|aA (fun β=>(ag (.of I) (At.lit .here I))) dR I ?_)
     dsimp only [Nat.zero_add,Nat.reduceAdd];refine dq I (fun _=>rfl) ?_
     with_reducible apply c7 (B:=[5]) (F:=fun _=>.bool false) (args:=fun β=>[β 5,.func (.func 158) #[] #[.p IX]])
     case hB=>first | rfl | kernel_rfl
     case hr=>exact fun β=>bj (.of I) (.o I (.o I .nil)) inferInstance I
     case hi=>exact bo
     case hd=>rfl
     case hc=>
      intro β w' hb;have m5:=hb.at 5 Zs (s:=⟨fun β=>β 5,fun β=>[row 3 1 (β 5) R0.length (R0.map (Value.int .i64))]⟩) (by kernel_rfl)
      dsimp only [Zb,Za] at m5;have s1:Rd w' (β 5) 1 (ints R0):=lN m5 (by exact .here) I;have f9:w'.cell? ⟨b9,0,none⟩=some (.slice aw L.length cw):=At.lit cZ I w' m5;have f16:w'.cell? ⟨IX,0,none⟩=some (.func (.func 157) #[] #[.p b9]):=At.lit bI I w' m5;have q:=xo (f:=158) (p:=fun x=>!L.contains x) (first:=[]) (cap:=[.p IX]) s1 (fun x hx w2 fo=>xC x (BZ.keeps (hb.mem.keeps.trans fo)) (cG f9 I fo) (cG f16 I fo))
      rw [hro] at q;exact q
     (refine aA (fun β=>(df (.of I) (.of I) (.of I) I)) dR I<|aA (fun β=>(aS (.of I))) dR I<|dq I (fun _=>rfl)<|aA (fun β=>(ag (.of I) (At.lit (.there .here) I))) dR I<|dq I (fun _=>rfl)<|aA (fun β=>(aq (.of I) ae)) dR I<|dq I (fun _=>rfl)<|aA (fun β=>(ag (.of I) (At.lit dL I))) dR I<|dq I (fun _=>rfl)<|aA (fun β=>(bK (.of I) dL ai (by rfl))) dR I<|dq I (fun _=>rfl)<|aA (fun β=>(aS (.of I))) dR I ?_)
     dsimp only [Nat.zero_add,Nat.reduceAdd];refine dq I (fun _=>rfl) ?_
     with_reducible apply c7 (B:=[]) (F:=fun _=>.q (j0:Nat)) (args:=fun _=>[.agg #[.q r.lv,.q r.ma,s,.slice a3 r.de.length ur,t,p],.string de])
     case hB=>rfl
     case hr=>exact fun β=>bj (.of I) (.o I (.o I .nil)) inferInstance I
     case hi=>exact bo
     case hd=>rfl
     case hc=>exact fun β w' hb=>yG w' hb.mem.keeps
     (refine dq I (fun _=>rfl)<|aA (fun β=>(an (.of I) (.of I) yH (by omega) (by omega) aW)) dR I<|dq I (fun _=>rfl)<|aA (fun β=>(aq (.of I) ae)) dR I<|dq I (fun _=>rfl)<|aA (fun β=>(ag (.of I) (At.base Bo I))) dR I ?_)
     dsimp only [Nat.zero_add,Nat.reduceAdd];refine dq I (fun _=>rfl) ?_
     with_reducible apply c7 (B:=[]) (F:=fun _=>.bool false) (args:=fun _=>[.q (lo r de),.p b9])
     case hB=>rfl
     case hr=>exact fun β=>bj (Is.of I) (IA.cons (Is.of I) IA.nil) inferInstance eY
     case hi=>exact bo
     case hd=>rfl
     case hc=>
      intro β w' hb;have m5:=hb.mem;have f9:w'.cell? ⟨b9,0,none⟩=some (.slice aw L.length cw):=At.lit bI I w' m5;have q:=xD (lo r de) (BZ.keeps hb.mem.keeps) f9;rw [YU] at q;exact q
     refine aA (fun β=>(df (.of I) (.of I) (.of I) I)) dR I ?_;dsimp only [Nat.zero_add,Nat.reduceAdd]
     with_reducible apply c7 (B:=[]) (F:=fun _=>.q (cn false 19)) (args:=fun _=>[.bool false,.q 19])
     case hB=>rfl
     case hr=>exact fun β=>bj (.of I) (.o I (.o I .nil)) inferInstance I
     case hi=>exact bo
     case hd=>rfl
     case hc=>exact fun β w' hb=>eE _ _ _
     refine aA (fun β=>(cC (.of I))) dR I ?_;refine fq fun β=>?_;dsimp only [ez,Za,Zb,List.append_eq,Nat.reduceAdd]
     with_reducible refine cE (by kernel_rfl) ?_
     refine Jt<|Je<|JT ?_
     rfl
structure Tk where
 de:ByteArray
 so:List ByteArray
structure fc where
 tk:Tk
 v:Value
def fc.cells (x:fc):List Value:=[.string x.tk.de,x.v]
def gP (l:List fc):List (List Value):=l.map fc.cells
theorem dx (l:List fc):(gP l).length=l.length:=by simp [gP]
theorem kh {l:List fc} (h:k<l.length):(gP l)[k]? = some (l[k]).cells:=by simp [gP,h]
theorem iW {l:List fc} (h:k<l.length):gP l≠[]:=by intro e;have:=congrArg List.length e;rw [dx] at this;simp at this;subst this;simp at h
def rp (w:World) (l:List fc):Prop:=∀ x∈l,Rd w x.v 1 (gT x.tk.so)
theorem rp.keeps {w w':World} {l:List fc} (h:rp w l) (hk:aJ [] w w'):rp w' l:=fun x hx=>(h x hx).keeps hk
theorem Gy {l:List fc} {p:fc->Bool} [bV T_ f] {w:World} (h:Rd w lv 2 (gP l)) (cF:∀ x∈l,∀ w',aJ [] w w'->ak T_ f (first++[.agg x.cells.toArray]++cap) w' (.bool (p x))) :
  ak T_ 252 [lv,.func (.func f) first.toArray cap.toArray] w (.q (iT p l)):=by
 obtain ⟨a,cp,b,o,rfl,dy,bT,ha,hc⟩:=h;rw [dx] at *;unfold maxLen at bT;refine ah func252 I I ?_;refine Jr<|Ja I<|Jn<|Jq<|Jr<|Jv I<|JI I<|Jv I<|Jn<|J0 ?_;refine aV (fun k:Nat=>k<=l.length/\∀ i,i<k->(l[i]?.map p).getD false=false) (fun k=>[(8,.int .i64 k),(7,.int .i64 l.length),(0,.slice a l.length cp),(1,.func (.func f) first.toArray cap.toArray)]) (fun _=>[]) (fun k=>l.length-k) ?_ ?_
 ·apply aI 0 ⟨Zi _,fun i h=>by omega⟩
  case hs1=>exact bS
  case ht=>(try simp only [Ze,Zf,Za]);exact .nil
 rintro k ⟨hk,hf⟩;by_cases aM:k<l.length
 ·have cu:=ha (iW aM);have aC:=(hc k _ (kh aM)).2;have jK:=cF _ (Zj aM);have hps:(l[k]?.map p).getD false=p l[k]:=by simp [aM]
  unfold fc.cells at aC jK
  (refine Jr<|JA I<|Jn<|Jq<|Jd I fun au=>Jk<|Jq<|J0<|Jr<|Jv I<|Ja I<|Ji<|Jv I<|Jv I<|Jv I<|ab (fY cu au) I<|ab (iU (eR.base aC I)) I<|aj bN I (fun w' aB=>(jK w' (Mem.keeps aB)))<|Jn<|nW I (fun au=>?_) fun au=>?_;refine Jr<|Jv I<|Ja I<|Jn<|Je<|Jm<|Jh<|Jh<|Jm<|Jh<|JT ?_;rotate_left;refine Jw<|Jj<|Jt<|Jg<|JB I (by omega)<|Jv I<|Jn ?_;rotate_right)
  ·rw [gQ hf aM au]
  ·apply aG (k+1) ⟨by omega,fun i hi=>by
    by_cases e:i=k
    ·rw [e,hps];exact au
    ·exact hf i (by omega)⟩ (by omega)
   case hs1=>exact bS
   case ht=>(try simp only [Ze,Zf,Za]);exact .nil
 ·obtain rfl:k=l.length:=by omega
  refine Jr<|JA I<|Jn<|Jq<|Jc I fun au=>Jp<|Jl<|Jo<|Jt<|Jr<|Ja I<|Jn<|Je<|JT ?_;rw [fP hf]
theorem PW {l:List fc} {p:fc->Bool} [bV T_ f] {w:World} (h:Rd w lv 2 (gP l)) (cF:∀ x∈l,∀ w',aJ [] w w'->ak T_ f (first++[.agg x.cells.toArray]++cap) w' (.bool (p x))) :
  ak T_ 248 [lv,.func (.func f) first.toArray cap.toArray] w (.bool (l.any p)):=by
 have jK:∀ w',aJ [] w w'->ak T_ 252 [lv,.func (.func f) first.toArray cap.toArray] w' (.q (iT p l)):=fun w' hk=>
  Gy (h.keeps hk) fun x hx w2 fo=>cF x hx w2 (hk.trans fo)
 rw [<- lf];refine ah func248 I I ?_
 (refine Jr<|Ja I<|Ji<|Jv I<|Jv I<|aj bb I (fun w' aB=>(jK w' (Mem.keeps aB)))<|JG I<|Ja I<|Jn<|Je<|JT ?_)
 rfl
theorem VO {x:fc} {y:ByteArray} (f1:w.cell? ⟨b,0,none⟩=some (.string y)):ak T_ 249 [.agg x.cells.toArray,.p b] w (.bool (decide (x.tk.de=y))):=by
 unfold fc.cells;refine ah func249 I I ?_
 (refine Jr<|Jy I I fun _ _=>Ja I<|Ji<|bG I I ae<|JL I .here I<|bG I I ae<|ab (ag (.of I) (At.base f1 I)) I<|ab (dB (.of I) (.of I)) I<|Ja I<|Jn<|Je<|JT ?_)
 rfl
theorem wi {ty:TypeId} {t u:TypeId} {a b:ByteArray} (hx:Is sl x (.string a)) (hy:Is sl y (.string b)) (e:a≠b) :
  du P c sl hs ⟨dst,.binOp .neq t x y u,ty,pos,af,g⟩ (.bool true):=by
 have:=fy (P:=P) (c:=c) (hs:=hs) (dst:=dst) (ty:=ty) (pos:=pos) (af:=af) (g:=g) (t:=t) (u:=u) hx hy;rwa [decide_eq_true e] at this
theorem CK {ty:TypeId} {t u:TypeId} {a b:ByteArray} (hx:Is sl x (.string a)) (hy:Is sl y (.string b)) (e:a=b) :
  du P c sl hs ⟨dst,.binOp .neq t x y u,ty,pos,af,g⟩ (.bool false):=by
 have:=fy (P:=P) (c:=c) (hs:=hs) (dst:=dst) (ty:=ty) (pos:=pos) (af:=af) (g:=g) (t:=t) (u:=u) hx hy;rwa [decide_eq_false (not_not_intro e)] at this
def jT (r:Ro) (o:ByteArray):Bool:=decide (o≠⟨#[]⟩)&&decide (o≠⟨#[45]⟩)&&decide (bA (cK r) o<0)
theorem VP {s d t p:Value} (o:ByteArray) {b:Nat} {w:World} (hr:RR w r s d t p) (hA:BR w b (RC r s d t p)) :
  ak T_ 251 [.string o,.p b] w (.bool (jT r o)):=by
 have h1:=Rd.one hr.sr;have h2:=Rd.one hr.de;have h3:=Rd.one hr.ti;have h4:=Rd.one hr.po;have lj:∀ (j:Nat) (u:Value),[Value.int .i64 r.lv,.q r.ma,s,d,t,p][j]? = some u->w.cell? ⟨b,0+j,none⟩=some u:=hA;refine ah func251 I I ?_;by_cases Mi:o=⟨#[]⟩
 ·have hB:jT r o=false:=by unfold jT;rw [decide_eq_false (not_not_intro Mi)];rfl
  rw [hB]
  (refine Jr<|Ja I<|Ji<|Jv I<|ab (CK (.of I) (.of I) Mi) I<|Jv I<|jz I I I I<|aH I I inferInstance (fun hg bE=>(fy (.bM bE I) (.of I))) I<|ab (df (.of I) (.of I) (.of I) I) I<|Jv I<|aH I I inferInstance (fun hg bE=>(ja (.of I) (eR.base lj I) I)) I<|jz I I I I<|eS I I I I<|eS I I I I<|ab (df (.of I) (.of I) (.of I) I) I<|Ja I<|Jn<|Je<|JT ?_)
  rfl
 by_cases Ug:o=⟨#[45]⟩
 ·have hB:jT r o=false:=by unfold jT;rw [decide_eq_false (not_not_intro Ug),Zbw];rfl
  rw [hB]
  (refine Jr<|Ja I<|Ji<|Jv I<|ab (wi (.of I) (.of I) Mi) I<|Jv I<|JK I I<|Jv I<|JK I I<|ab (CK (.of I) (.of I) Ug) I<|ab (df (.of I) (.of I) (.of I) I) I<|Jv I<|aH I I inferInstance (fun hg bE=>(ja (.of I) (eR.base lj I) I)) I<|jz I I I I<|eS I I I I<|eS I I I I<|ab (df (.of I) (.of I) (.of I) I) I<|Ja I<|Jn<|Je<|JT ?_)
  rfl
 have hB:jT r o=decide (bA (cK r) o<0):=by unfold jT;rw [decide_eq_true Mi,decide_eq_true Ug];rfl
 rw [hB]
 (refine Jr<|Ja I<|Ji<|Jv I<|ab (wi (.of I) (.of I) Mi) I<|Jv I<|JK I I<|Jv I<|JK I I<|ab (wi (.of I) (.of I) Ug) I<|ab (fx (.of I) (.of I) (.of I) I) I<|Jv I<|JK I I<|ab (iU (eR.base lj I)) I<|JK I I<|Jv I<|JK I I ?_)
 refine aj bb I (fun w' aB=>px o (hr.keeps aB.keeps)) ?_;refine JK I I<|JA I ?_
 with_reducible apply ab (V:=Value.bool (decide (bA (cK r) o<0)))
 case hr=>
  with_reducible apply ki
  case hx=>exact Is.of I
  case hy=>exact Is.of I
  case hz=>exact Is.of I
  case e=>rfl
 case hd=>rfl
 refine Ja I<|Jn<|Je<|JT ?_
 rfl
def bJ (l:List fc):List Tk:=l.map (·.tk)
def yo (r:Ro) (l:List Tk) (k:Nat):Int:=(l[k]?.map fun x=>aZ [rm r x.de,cn ((l.take k).any fun y=>decide (y.de=x.de)) 9,cn (decide ((x.so.length:Int)≠r.lv)) 2,cn (x.so.any (jT r)) 10]).getD 0
theorem rz {l:List Tk} (h:k<l.length):yo r l k=aZ [rm r (l[k]).de,cn ((l.take k).any fun y=>decide (y.de=(l[k]).de)) 9,cn (decide (((l[k]).so.length:Int)≠r.lv)) 2,cn ((l[k]).so.any (jT r)) 10]:=by
 unfold yo;rw [Zc h];rfl
def Eh (l:List Tk):Int:=aZ [cn (decide ((l.length:Int)=0)) 12,cn (decide ((8:Int)<(l.length:Nat))) 5]
def r5 (r:Ro) (l:List Tk):Int:=if Eh l≠0 then Eh l else ku (yo r l) l.length
set_option maxHeartbeats 2000000 in
theorem tf {s d t p kv:Value} {l:List fc} (h:RR w r s d t p) (hw:Rd w kv 2 (gP l)) (hM:rp w l) :
  ak T_ 164 [RA r s d t p,kv] w (.q (r5 r (bJ l))):=by
 obtain ⟨h1,h2,h3,h4⟩:=h.one;have BZ:=hw;obtain ⟨aw,cw,bw,ow,rfl,Rw,Dc,Xw,Mj⟩:=hw;rw [dx] at *;unfold maxLen at Dc;have qT:(bJ l).length=l.length:=Zd _;unfold RA;refine ah func164 I I ?_
 (refine Jr<|Jy I I fun _ _=>Ja I<|Jn<|Jq<|Jr<|Jv I<|JI I<|JC I<|aj bb I (fun w' aB=>(eE _ 12 w'))<|Jv I<|JI I<|JE I<|aj bb I (fun w' aB=>(eE _ 5 w'))<|a8 (aD (.o I (.o I .nil)) I I I I) I fun _ _=>aj bN I (fun w' aB=>(ee (Mem.dH aB .here I I) (cg.cons (cg.cons cg.nil))))<|Ja I<|Ji<|Jv I<|JD I<|Jn<|gG I (fun au=>?_) fun au=>?_;refine Jr<|Jv I<|Ja I<|Jn<|Ju<|JT ?_;rotate_left;refine Jk<|Jq<|Jr<|Jv I<|JI I<|Jv I<|Jn<|J0 ?_;rotate_right)
 ·have e1:r5 r (bJ l)=Eh (bJ l):=if_pos (by unfold Eh;rw [qT];exact au);rw [e1];unfold Eh;rw [qT]
 have GG:Eh (bJ l)=0:=by unfold Eh;rw [qT];exact Zo.1 au
 have hX:r5 r (bJ l)=ku (yo r (bJ l)) l.length:=by unfold r5;rw [if_neg (by rw [GG];decide),qT]
 clear au;rename_i b2 rf bq nf
 refine aV (fun k:Nat=>k<=l.length/\∀ i,i<k->yo r (bJ l) i=0) (fun k=>[(26,.q (k:Nat)),(25,.q (l.length:Nat)),(24,.slice aw l.length cw),(2,.p b2),(1,.slice aw l.length cw)])
  (fun k=>[JP b2 r s d t p]) (fun k=>l.length-k) ?_ ?_
 ·apply aI 0 ⟨Zi _,fun i hi=>by omega⟩
  case hs1=>exact bS
  case ht=>(try simp only [Ze,Zf,Za]);exact .cons (.there .here) .nil
 rintro k ⟨hk,hf⟩;by_cases aM:k<l.length
 ·have Mn:=Xw (iW aM);have aC:=(Mj k _ (kh aM)).2;unfold fc.cells at aC;have hx:=hM _ (Zj aM);have jA:=rz (r:=r) (l:=bJ l) (k:=k) (by omega);have hgk:(bJ l)[k]'(by omega)=(l[k]).tk:=Z2 _;rw [hgk] at jA;have uP:Rd w (Go.sliced aw 0 (k:Int).toNat cw 2) 2 (gP (l.take k)):=by
   have:=BZ.sliced (l:=0) (m:=k) (Zi _) (by omega);rw [ZL];rwa [List.drop_zero,show (gP l).take k=gP (l.take k) by unfold gP;rw [Zba]] at this
  have Un:(l.take k).any (fun y=>decide (y.tk.de=(l[k]).tk.de))=((bJ l).take k).any fun y=>decide (y.de=(l[k]).tk.de):=by
   unfold bJ;rw [<- Zba,List.any_map];rfl
  generalize l[k]=x at aC hx jA Un ⊢;obtain ⟨⟨xd,xs⟩,xv⟩:=x;dsimp only at aC hx jA Un ⊢;have TC:=hx;obtain ⟨ax,cx,bx,ox,rfl,Rv,Db,Xv,hcx⟩:=hx;rw [bF] at *;unfold maxLen at Db;have fO:∀ w',aJ [] w w'->ak T_ 112 [.agg #[.int .i64 r.lv,.int .i64 r.ma,s,d,t,p],.string xd] w' (.int .i64 (rm r xd)):=fun w' hk=>eZ xd (h.keeps hk)
  (refine Jr<|JA I<|Jn<|Jq<|Jd I fun au=>Jk<|Jq<|J0<|Jr<|Jv I<|ab (an (.of I) (.of I) Mn (by omega) au aW) I<|ab (iU (eR.base aC I)) I<|Jz I I fun _ _=>Ja I<|ao (.of I) (.of I) .here I I (gO I I) (bu I) ai<|Ji<|Jv I<|Jv I<|ab (iZ (.of I) (.of I) (by omega) (by omega)) I<|ab (bD .nil (.o I .nil)) I ?_)
  rename_i b7 Um
  with_reducible apply aj
  case hr=>exact bb
  case hd=>rfl
  case hc=>
   intro w' aB;have f7:w'.cell? ⟨b7,0,none⟩=some (.string xd):=(BR.of (cs:=[.string xd,.slice ax xs.length cx]) aB (by exact .here)) 0 _ I;exact PW (f:=249) (p:=fun y=>decide (y.tk.de=xd)) (first:=[]) (cap:=[.p b7]) (uP.keeps aB.keeps) (fun y hy w2 fo=>VO (cG f7 I fo))
  rw [Un]
  (refine Ja I<|Ji<|bG I I ae<|JL I .here I<|ab (bD .nil (.o I .nil)) I ?_)
  with_reducible apply aj
  case hr=>exact bb
  case hd=>rfl
  case hc=>
   intro w' aB;have hR:=h.keeps aB.keeps;have hA:BR w' b2 [.q r.lv,.q r.ma,s,d,t,p]:=BR.of aB (by exact Take.there .here);exact Mp (f:=251) (p:=jT r) (first:=[]) (cap:=[.p b2]) (TC.keeps aB.keeps) (fun o ho w2 fo=>VP o (hR.keeps fo) (hA.keeps fo))
  refine Ja I<|Jn<|Jq ?_
  with_reducible refine di 16 (by kernel_rfl) ?_
  (refine az (cm (.there .here)) I<|az lV I<|az (iB .here) I<|aY bb I (fun w' aB=>(fO w' (Mem.keeps aB)))<|az mB I<|aY bb I (fun w' aB=>(eE _ 9 w'))<|az lV I<|az (iB .here) I<|az (cq (.of I)) I<|az lV I<|az (iB (.there .here)) I<|az (j8 (.of I) (.of I)) I<|aY bb I (fun w' aB=>(eE _ 2 w'))<|az mB I<|aY bb I (fun w' aB=>(eE _ 10 w'))<|eN (aD (.o I (.o I (.o I (.o I .nil)))) I I I I) I I ?_)
  with_reducible refine dN I fun b55 acb=>?_
  (refine aj bN I (fun w' aB=>(ee (Mem.dH aB .here I I) (cg.cons (cg.cons (cg.cons (cg.cons cg.nil))))))<|Ja I<|Ji<|Jv I<|JD I<|Jn<|gG I (fun au=>?_) fun au=>?_;refine Jr<|Jv I<|Ja I<|Jn<|Je<|Jm<|Jh<|Jh<|Jm<|Jh<|JT ?_;rotate_left;refine Jw<|Jj<|Jt<|Jg<|JB I (by omega)<|Jv I<|Jn ?_;rotate_right)
  ·rw [<- jA] at au ⊢;have hB:ku (yo r (bJ l)) l.length=yo r (bJ l) k:=fI hf aM au;rw [hX,hB]
  have hz:yo r (bJ l) k=0:=by rw [jA];exact Zo.1 au
  apply aG (k+1) ⟨by omega,fun i hi=>by
   by_cases e:i=k
   ·rw [e];exact hz
   ·exact hf i (by omega)⟩ (by omega)
  case hs1=>exact bS
  case ht=>(try simp only [Ze,Zf,Za]);exact .cons bI .nil
 ·obtain rfl:k=l.length:=by omega
  have XI:ku (yo r (bJ l)) l.length=0:=ew.2 hf;rw [hX,XI];refine Jr<|JA I<|Jn<|Jq<|Jc I fun au=>Jp<|Jl<|Jo<|Jt<|Jr<|Ja I<|Jn<|Je<|JT ?_
  rfl
def r6 (v:Int) (o:ByteArray) (x:Po):Bool:=decide (x.lv=v)&&decide (x.ou=o)
theorem VI {x:Po} (v:Int) (o:ByteArray) {b1 b2:Nat} {w:World} (f1:w.cell? ⟨b1,0,none⟩=some (.q v)) (f2:w.cell? ⟨b2,0,none⟩=some (.string o)) :
  ak T_ 315 [.agg x.cells.toArray,.p b1,.p b2] w (.bool (r6 v o x)):=by
 unfold Po.cells;refine ah func315 I I ?_
 (refine Jr<|Jy I I fun _ _=>Ja I<|Ji<|ab (cm .here) I<|ab (ag (.of I) (At.base f1 I)) I<|ab (ag (.of I) (At.base f2 I)) I<|bG I I ae<|JL I .here I<|ab (aU (.o I (.o I (.o I .nil))) ai) I<|ab (vt (.of I) (.of I) (kQ (fT (fT mU))) I) I<|Ja I<|Jn<|Je<|JT ?_)
 simp [r6]
def RB (b:Nat) (r:Ro) (s d t p:Value):bd:=JP b r s d t p
def PB (p:Value) (l:List Po):bd:=row 188 3 p l.length (gA l)
set_option maxHeartbeats 1000000 in
theorem yT {s d t p:Value} {l:List Po} (v:Int) (o:ByteArray) {w:World} {fp:List Nat} (jq:fp.Nodup) (hs:cr (hp w) [RB b r s d t p,PB p l] fp) (c8:l.length<=1000000) :
  bh T_ 256 [.p b,.q v,.string o] w fp (fun _:Value=>True) (fun _=>.tuple #[]) (fun p'=>[RB b r s d t p',PB p' (l.filter fun x=>!r6 v o x)]):=by
 unfold RB PB at *;refine eh func256 I I jq hs ?_
 (refine Jr<|Jy I I fun _ _=>Jy I I fun _ _=>Jn<|Jg<|Jv I<|Jv I<|ab (ep (.of I)) I<|bG I I ae<|JL I bI I<|ab (bD .nil (.o I (.o I .nil))) I ?_)
 rename_i b4 uT b5 H7
 with_reducible apply gq (As:=[row 188 3 p l.length (gA l)])
 case hr=>exact bb
 case hd=>rfl
 case ht=>exact .cons cZ .nil
 case hc=>
  intro w1 Bv aT u7 hs1 Dr lz;have h4:b4 ∉ Bv:=lz b4 _ _ (by exact Take.there .here);have h5:b5 ∉ Bv:=lz b5 _ _ (by exact .here);have f4:w1.cell? ⟨b4,0,none⟩=some (.q v):=At.lit (by exact Take.there .here) I w1 aT;have f5:w1.cell? ⟨b5,0,none⟩=some (.string o):=At.lit (by exact .here) I w1 aT;exact Qh (f:=315) (p:=r6 v o) (first:=[]) (cap:=[.p b4,.p b5]) u7 hs1 I c8 (fun x _ w2 fo=>VI v o (eL f4 I h4 fo) (eL f5 I h5 fo))
 intro p' _;dsimp only [id_eq,Zb,Za];refine aK (by exact .here) fun va vc e=>?_;subst e
 (refine ab (ep (.of I)) I<|bG I I ae<|ao (.of I) (.of I) cZ I I (dG I) (bu I) ai<|Jx ?_)
 first | with_reducible apply aO | with_reducible apply aQ
 case he=>exact rk I
 case hR=>
  intro w' aB;exact aF (.slice va (l.filter fun x=>!r6 v o x).length vc) trivial (by exact .h2 .nil) aB I
theorem Io {l:List Po} (h:Rd w lv 3 (uE l)) (hl:l.length<=1000) :
  bh T_ 316 [lv] w [] (fun _:Value=>True) id (fun v=>[row 188 3 v l.length (gA l)]):=by
 have h':=h;obtain ⟨a,cp,b,o,rfl,dy,bT,ha,hc⟩:=h;refine aR func316 I I ?_;cases a with
 | none =>
  have mX:l=[]:=by
   cases l with
   | nil=>rfl
   | cons x r=>exact absurd (ha (by simp [uE])) (by simp)
  subst mX
  (refine Jr<|Ja I<|Jn<|Jq<|Jr<|Jv I<|ab (iE (.of I) (.of I)) I<|Jn<|cY (.of I)<|Jr<|Ja I<|Jn<|Ju ?_)
  refine aN 188 3 ?_
  first | with_reducible apply aO | with_reducible apply aQ
  case he=>exact dI I I
  case hR=>
   intro w' aB;exact aF (.z) trivial (by exact .h1 .nil) aB I
 | some ad =>
  (refine Jr<|Ja I<|Jn<|Jq<|Jr<|Jv I<|ab (iE (.of I) (.of I)) I<|Jn<|bZ (.of I)<|Jk<|Jr ?_)
  with_reducible apply a8
  case hr=>exact lK
  case hd=>rfl
  intro bq nf;refine HK I I ?_;refine bP (g:=bq) (E:=188) (ys:=[]) 0 3 (by exact .here) I I I ?_
  with_reducible apply eX
  case hx=>exact Is.of I
  case hy=>exact Is.of I
  case ht=>exact .here
  case hsrc=>exact fun w' aB=>h'.keeps aB.keeps
  case h1=>exact A3 l
  case hz=>exact I
  case hsz=>exact I
  case hb0=>exact I
  case hb=>rw [cT];omega
  case hd=>rfl
  intro v';rw [cT,Zx,Za,<- A0];refine Ja I<|Jn<|Je ?_
  first | with_reducible apply aO | with_reducible apply aQ
  case he=>exact dI I I
  case hR=>
   intro w' aB;exact aF v' trivial (by exact .h1 .nil) aB I
def Ym (w:World) (b:Nat) (l:List (ByteArray×Value)):Prop:=∃ es clock,w.heap[b]? = some (.map es clock)/\Lm (fun s:ByteArray=>Value.string s) l es clock
theorem Ym.ko {w w':World} {md:List Nat} (h:Ym w b l) (hn:b ∉ md) (hk:aJ md w w'):Ym w' b l:=by
 obtain ⟨es,ck,h1,h2⟩:=h;have hb:b<w.heap.size:=(Z1.1 h1).1;have:=hk.block b hb hn;exact ⟨es,ck,by rw [this,h1],h2⟩
theorem wj {ty:TypeId} {t kt et:TypeId} {k:ByteArray} {z V:Value} [hu:jw P t (.map kt et)] [H3:jw P kt .string] [hz:mL P et z]
  (hx:Is sl x (.map (some b))) (hy:Is sl y (.string k)) (hl:Looks c hs b (fun s:ByteArray=>Value.string s) l) (e:(fh k l).getD z=V) :
  du P c sl hs ⟨dst,.lookup t x y false,ty,pos,af,g⟩ V:=e ▸ HA Lz hx hy hl
def S7 (r:Ro) (x y:Po):Int:=aZ [lA x.lv y.lv,lA (eC r x.ou) (eC r y.ou)]
theorem SK {x y:Po} {b bm:Nat} (hd:D4 r) (hx:jL (eI r) x.ou=true) (hy:jL (eI r) y.ou=true) (f:w.cell? ⟨b,0,none⟩=some (.map (some bm))) (hm:Ym w bm (pJ r)) :
  ak T_ 318 [.agg x.cells.toArray,.agg y.cells.toArray,.p b] w (.q (S7 r x y)):=by
 have ex:(fh x.ou (pJ r)).getD (mD 0 0 0)=mD (eC r x.ou) (k6 r x.ou) (kI r x.ou):=by rw [rD hd,hx];rfl
 have ey:(fh y.ou (pJ r)).getD (mD 0 0 0)=mD (eC r y.ou) (k6 r y.ou) (kI r y.ou):=by rw [rD hd,hy];rfl
 unfold Po.cells;refine ah func318 I I ?_;refine Jr<|Jy I I fun _ _=>Jy I I fun _ _=>Ja I<|Jn<|Jq ?_
 with_reducible refine di 17 (by kernel_rfl) ?_
 (refine az lV I<|az (iB (.there .here)) I<|az lV I<|az (iB .here) I<|aY bb I (fun w' aB=>(Dz _ _ w'))<|az (ag (.of I) (At.base f I)) I<|az lV I<|az (iB (.there .here)) I ?_)
 refine az (wj (l:=pJ r) (z:=mD 0 0 0) (V:=.agg #[.q (eC r x.ou),.q (k6 r x.ou),.q (kI r x.ou)]) (Is.of I) (Is.of I) (fun w' aB=>hm.ko (by simp) aB.keeps) ex) I ?_
 (refine az (CN (.of I) I) I<|az (ag (.of I) (At.base f I)) I<|az lV I<|az (iB .here) I ?_)
 refine az (wj (l:=pJ r) (z:=mD 0 0 0) (V:=.agg #[.q (eC r y.ou),.q (k6 r y.ou),.q (kI r y.ou)]) (Is.of I) (Is.of I) (fun w' aB=>hm.ko (by simp) aB.keeps) ey) I ?_
 (refine az (CN (.of I) I) I<|aY bb I (fun w' aB=>(Dz _ _ w'))<|eN (aD (.o I (.o I .nil)) I I I I) I I ?_)
 with_reducible refine dN I fun bq nf=>?_
 skip
 refine aj bN I (fun w' aB=>Wj (l:=[lA x.lv y.lv,lA (eC r x.ou) (eC r y.ou)]) (Mem.dH aB (by exact .here) I I)) ?_;refine Ja I<|Jn<|Je<|JT ?_
 rfl
end Go.Proofs.A1
namespace Go.Proofs.A1
open Go Go.SL Go.Shelf
open Tryz
open Tryz renaming prog->T_
theorem vu (r:Ro) (x y:Po):S7 r x y<0↔x.lv<y.lv\/(x.lv=y.lv/\eC r x.ou<eC r y.ou):=by
 unfold S7;generalize eC r x.ou=a;generalize eC r y.ou=b;simp only [aZ,lA]
 repeat' split
 all_goals omega
theorem OT {α:Type} (r:Ro) (g:α->Po):Go.Sort.SWO (ltOf fun x y:α=>S7 r (g x) (g y)):=by
 constructor
 ·intro x;unfold ltOf;rw [decide_eq_false_iff_not,vu];omega
 ·intro x y z h1 h2;unfold ltOf at *;rw [decide_eq_true_eq,vu] at *;omega
 ·intro x y z h1 h2;unfold ltOf at *;rw [decide_eq_false_iff_not,vu] at *;omega
theorem KA {r:Ro} {v:Value} {l:List Po} {NQ bm:Nat} {w:World} {fp:List Nat} (hs:cr (hp w) [PB v l] fp) (hd:D4 r) (jI:∀ x∈l,jL (eI r) x.ou=true) (c8:l.length<=1000000)
  (f:w.cell? ⟨NQ,0,none⟩=some (.map (some bm))) (hm:Ym w bm (pJ r)) (h14:NQ ∉ fp) (Y2:bm ∉ fp) :
  bh T_ 317 [v,.func (.func 318) #[] #[.p NQ]] w fp (fun l':List Po=>l'.Perm l/\l'.Pairwise (fun x y=>¬ S7 r y x<0)) (fun _=>.tuple #[]) (fun l'=>[PB v l']):=by
 obtain ⟨f1,f2,rfl,h1,h2⟩:=hs;obtain rfl:f2=[]:=h2;obtain ⟨rfl,hlen,h1⟩:=h1;rw [ZN] at *;rcases h1 with ⟨rfl,h0⟩ | ⟨g,cap,cur,rfl,hg,kS,kr,o9,ud⟩
 ·have mX:l=[]:=Z6 (by omega);subst mX;refine (AnyF.slices_SortFunc_none Tryz.Er none 0 (.func (.func 318) #[] #[.p NQ]) w).mono fun e w' ⟨he,hw⟩=>?_;subst hw;exact ⟨[],he,⟨.refl _,.nil⟩,.refl _ _,[],Zah,⟨[],[],I,⟨I,hlen,.inl ⟨I,h0⟩⟩,I⟩,by simp⟩
 ·have Ul:g<w.heap.size:=(Z1.1 hg).1;by_cases mX:l=[]
  ·subst mX;refine (AnyF.slices_SortFunc_none Tryz.Er (some ⟨g,0,none⟩) cap (.func (.func 318) #[] #[.p NQ]) w).mono fun e w' ⟨he,hw⟩=>?_;subst hw;exact ⟨[],he,⟨.refl _,.nil⟩,.refl _ _,[g],by simp,⟨[g],[],I,⟨I,hlen,.inr ⟨g,cap,cur,I,hg,kS,kr,o9,ud⟩⟩,I⟩,fun b hb=>.inl hb⟩
  obtain ⟨x0,TC⟩:=List.exists_mem_of_ne_nil l mX
  let α:={x:Po // jL (eI r) x.ou=true}
  let _:Inhabited α:=⟨⟨x0,jI x0 TC⟩⟩
  let enc:α->List Value:=fun x=>x.1.cells
  have oE:cur=([]++gA l++cur.toList.drop (l.length*3)).toArray:=by
   apply Array.ext';show cur.toList=_;rw [<- ud,Za,Z5]
  generalize WT:cur.toList.drop (l.length*3)=post at oE
  let la:List α:=l.attach.map fun x=>⟨x.1,jI x.1 x.2⟩
  have T8:la.map (fun x:α=>x.1)=l:=by
   show (l.attach.map fun x=>(⟨x.1,jI x.1 x.2⟩:α)).map (fun x:α=>x.1)=l
   rw [ZaI];exact List.attach_map_subtype_val l
  have Dg:∀ m:List α,(m.map enc).flatten=gA (m.map fun x:α=>x.1):=fun m=>by
   rw [A0];unfold uE;rw [ZaI];rfl
  have E4:la.length=l.length:=by
   show (l.attach.map fun x=>(⟨x.1,jI x.1 x.2⟩:α)).length=_
   rw [Zd,List.length_attach]
  have rf:w.heap[g]? = some (.cells ([]++(la.map enc).flatten++post).toArray 188 (0,0)):=by rw [Dg,T8,<- oE];exact hg
  have key:=Cs Tryz.Er (k:=3) isAgg188 sizeOf188 (enc:=enc) (fun _=>rfl)
   (fun x u hu=>by
    simp only [enc,Po.cells,ZT,Zp,or_false] at hu;rcases hu with rfl | rfl | rfl <;> rfl)
   (OT r (fun x:α=>x.1)) (g:=318) (b:=g) (cap:=cap) (cb:=#[.p NQ]) (l:=la) (pre:=[]) (cur:=post) (E:=188) (w:=w)
   (enters_of func318 (by kernel_rfl) I) rf (by rw [E4];omega)
   (fun w' hk x y=>SK (r:=r) (x:=x.1) (y:=y.1) hd x.2 y.2 (eL f I h14 hk) (hm.ko Y2 hk))
  rw [E4] at key;refine Calls.mono key ?_;rintro e w' ⟨he,l',iH,hpw,hk,dM⟩;have zO:(l'.map fun x:α=>x.1).length=l.length:=by rw [Zd,iH.length_eq,E4]
  rw [Dg] at dM;refine ⟨l'.map fun x:α=>x.1,he,⟨?_,?_⟩,hk,[g],by simp,⟨[g],[],I,⟨I,?_,.inr ⟨g,cap,_,?_,dM,?_,kr,?_,?_⟩⟩,I⟩,fun b hb=>.inl hb⟩
  ·have:=iH.map (fun x:α=>x.1)
   rwa [T8] at this
  ·rw [ZbB];refine hpw.imp fun {x y} h=>?_;unfold ltOf at h;rwa [decide_eq_false_iff_not] at h
  ·exact im _
  ·rw [zO]
  ·rw [zO];exact kS
  ·rw [<- o9];have:=congrArg (fun x:Array Value=>x.size) oE
   simp only [Zbr,Zg,im,Zae,Zx] at this ⊢;rw [zO,this]
  ·show List.take _ ([]++gA _++post)=_;rw [Za,Zai (by rw [im];exact Zz _),Zab (by rw [im];exact Zz _)]
end Go.Proofs.A1
namespace Go.Proofs.A1
open Go Go.SL
open Tryz
open Tryz renaming prog->T_
set_option maxHeartbeats 2000000 in
theorem A4 {r:Ro} {s d t p:Value} {w:World} (h:RR w r s d t p) (c8:og r) (YP:r.po.length<=1000000) :
  bh T_ 184 [RA r s d t p] w [] (fun _:Value×Value×Value×Value=>True) (fun x=>RA r x.1 x.2.1 x.2.2.1 x.2.2.2) (fun x=>[J1 r x.1,J2 r x.2.1,J3 r x.2.2.1,PB x.2.2.2 r.po]):=by
 obtain ⟨h1,h2,h3,h4⟩:=h.one;have HX:=h.po;have o8:=h.po;obtain ⟨a4,cp4,q4,o4,rfl,re,jV,zS,ud⟩:=o8;rw [cT] at *;unfold maxLen at jV;unfold RA;refine aR func184 I I ?_
 (refine Jr<|Jy I I fun _ _=>Jz I I fun _ _=>Ji<|ab (cm (.there .here)) I<|Jz I I fun _ _=>ao (.of I) (.of I) .here I I (fk I I h1 h2 h3 I) (bu I) ai<|Jn<|Jq ?_)
 have hs0:=h.sr;have Vp:=h.de
 with_reducible refine dO 7 (by kernel_rfl) ?_
 (refine aA (fun β=>(aq (.of I) ae)) dR I<|aA (fun β=>(ag (.of I) (At.lit bI I))) dR I ?_)
 dsimp only [Nat.zero_add,Nat.reduceAdd]
 with_reducible apply fC (ι:=Value) (Φ:=fun _=>True) (val:=id) (own:=fun x=>[J1 r x]) (g:=id) (B:=[]) (args:=fun _=>[s])
 case hg=>exact fun x=>⟨x,I⟩
 case hB=>rfl
 case hr=>exact fun β=>bj (.of I) (.o I .nil) inferInstance I
 case hd=>rfl
 case hc=>exact fun β w' hb=>Im (h.sr.keeps hb.mem.keeps) (by have:=c8.1;omega)
 dsimp only [id_eq,Nat.reduceAdd]
 (refine aA (fun β=>(aq (.of I) ae)) dR I<|aA (fun β=>(ag (.of I) (At.lit bI I))) dR I ?_)
 dsimp only [Nat.zero_add,Nat.reduceAdd]
 with_reducible apply fC (ι:=Value) (Φ:=fun _=>True) (val:=id) (own:=fun x=>[J2 r x]) (g:=id) (B:=[]) (args:=fun _=>[d])
 case hg=>exact fun x=>⟨x,I⟩
 case hB=>rfl
 case hr=>exact fun β=>bj (.of I) (.o I .nil) inferInstance I
 case hd=>rfl
 case hc=>exact fun β w' hb=>Ip (h.de.keeps hb.mem.keeps) (by have:=c8.2.1;omega)
 dsimp only [id_eq,Nat.reduceAdd];refine aA (fun β=>(aq (.of I) ae)) dR I ?_;refine fq fun β=>?_;dsimp only [ez,Za,Zb,List.append_eq,Nat.reduceAdd];generalize β 2=sv;generalize β 5=dv;clear β;refine aK (v:=sv) (by exact .here) fun sa sc e=>?_;subst e;refine aK (v:=dv) (by exact Take.there .here) fun da dc e=>?_;subst e;refine bR (rs:=[7]) (by kernel_rfl) (by simp) (Zw.2 ⟨?_,fun _ h=>absurd h Zp⟩);refine cd I ?_
 (refine ao (.of I) (.of I) bI I I (dG I) (bu I) ai<|Jn ?_)
 refine bR (rs:=[8]) (by kernel_rfl) (by simp) (Zw.2 ⟨?_,fun _ h=>absurd h Zp⟩);refine cd I ?_
 (refine bG I I ae<|Jn ?_)
 refine bR (rs:=[9]) (by kernel_rfl) (by simp) (Zw.2 ⟨?_,fun _ h=>absurd h Zp⟩);refine cd I ?_
 (refine ao (.of I) (.of I) .here I I (dG I) (bu I) ai<|Jn ?_)
 with_reducible refine cE (by kernel_rfl) ?_
 (refine Jt<|Jr<|bG I I ae<|JL I dL I ?_)
 refine JN bN I (fun w1 aT=>Il (h.keeps aT.keeps).ti (by have:=c8.2.2;omega)) ?_;intro tv _;dsimp only [id_eq,Zb,Za];refine aK (v:=tv) (by exact .here) fun ta tc e=>?_;subst e
 (refine bG I I ae<|ao (.of I) (.of I) (.there .here) I I (dG I) (bu I) ai<|Ji<|bG I I ae<|JL I eD I<|JI I ?_)
 with_reducible apply a8
 case hr=>
  with_reducible apply OM
  case hx=>exact Is.of I
  case hy=>exact Is.of I
  case hl=>exact Zz _
  case hb=>omega
  case hz=>rfl
  case hsz=>rfl
  case h63=>omega
 case hd=>rfl
 intro bg Ul
 (refine bG I I ae<|ao (.of I) (.of I) (.there .here) I I (dG I) (bu I) ai<|Ji<|bG I I ae<|JL I .here I<|bG I I ae<|JL I mN I ?_)
 with_reducible apply Ko
 case hx=>exact Is.of I
 case hy=>exact Is.of I
 case ht=>exact Take.there .here
 case hsrc=>exact fun w' aB=>HX.keeps aB.keeps
 case h1=>exact A3 r.po
 case hfit=>
  simp [Value.cells]
 case hd=>rfl
 rw [Zab (by rw [cT];exact Zz _),<- A0,AK _ _ (by rw [im];simp [Value.cells])];refine dC (n:=r.po.length) (xs:=gA r.po) (cap:=r.po.length) (g:=bg) (E:=188) (sz:=3) (by exact .here) (Zz _) (by unfold maxLen;omega) ?_ (im _) ?_
 ·rw [Zg,Zbj,im];simp [Value.cells]
 (refine Ji<|ab (cm (.there .here)) I<|ao (.of I) (.of I) eD I I (fk I I I I I I) (bu I) ai<|Jn<|Je ?_)
 first | with_reducible apply aO | with_reducible apply aQ
 case he=>exact iP I inferInstance I .here ai (by rfl)
 case hR=>
  intro w' aB;exact aF (.slice sa r.sr.length sc,.slice da r.de.length dc,.slice ta r.ti.length tc,.w bg r.po.length r.po.length) trivial (by exact .cons dL (.cons dL (.cons cZ (.cons (.there .here) .nil)))) aB I
end Go.Proofs.A1
namespace Go.Proofs.A1
structure Sw (po:List Po) (D:List ByteArray) (f:Po->Bool):Prop where
 de:∀ p∈po,p.ou∈D->f p=true
 up:∀ p∈po,∀ q∈po,f q=true->q.lv=p.lv->q.ip=p.ou->f p=true
theorem Sw.start (po:List Po) (D:List ByteArray):Sw po D fun _=>true:=⟨fun _ _ _=>rfl,fun _ _ _ _ _ _ _=>rfl⟩
theorem Sw.step {po:List Po} {D:List ByteArray} {f:Po->Bool} (h:Sw po D f) {v:Int} {o:ByteArray} (hD:o ∉ D) (hu:∀ q∈po,f q=true->¬ (q.lv=v/\q.ip=o)):Sw po D fun x=>f x&&!r6 v o x:=by
 refine ⟨fun p hp hd=>?_,fun p hp q hq hf e1 e2=>?_⟩
 ·have h1:=h.de p hp hd;have h2:r6 v o p=false:=by
   unfold r6;have:¬ p.ou=o:=fun e=>hD (e ▸ hd)
   simp [this]
  simp [h1,h2]
 ·rw [Bool.and_eq_true] at hf;have h1:=h.up p hp q hq hf.1 e1 e2;have h2:r6 v o p=false:=by
   unfold r6;by_cases a:p.lv=v
   ·by_cases b:p.ou=o
    ·exact absurd ⟨e1.trans a,e2.trans b⟩ (hu q hq hf.1)
    ·simp [b]
   ·simp [a]
  simp [h1,h2]
theorem qb (po:List Po) (f:Po->Bool) (v:Int) (o:ByteArray):(po.filter f).filter (fun x=>!r6 v o x)=po.filter fun x=>f x&&!r6 v o x:=by
 rw [List.filter_filter];congr 1;funext x;exact Bool.and_comm _ _
end Go.Proofs.A1
namespace Go.Proofs.A1
open Go Go.SL
def Ro.wp (r:Ro) (po:List Po):Ro:=⟨r.lv,r.ma,r.sr,r.de,r.ti,po⟩
variable {k:Nat} {p:Po} {po q:List Po} {r:Ro}
theorem jP.wp (h:jP r po):jP (r.wp q) po:=⟨h.sq,h.Lx,h.out,h.yf,h.Q6,h.D1,h.use⟩
theorem oT.wp (h:oT r):oT (r.wp q):=⟨h.sd,h.st,h.dt,h.U8⟩
theorem D4.wp (h:D4 r):D4 (r.wp q):=⟨h.nd⟩
theorem sg.wp (h:sg r) {q:List Po} (hq:jP r q):sg (r.wp q):=⟨h.lim,h.RU.wp,h.len,h.sm,h.dm,h.tm,hq.wp⟩
theorem sg.nd (h:sg r):(cR r).Nodup:=h.RU.parts.2.2.1
def yp (D:List ByteArray) (po:List Po):List Po:=po.filter fun p=>jL D p.ou||po.any fun q=>decide (q.lv=p.lv)&&decide (q.ip=p.ou)
def Ht (D:List ByteArray):Nat->List Po->List Po
 | 0,po=>po
 | n+1,po=>Ht D n (yp D po)
def AD (D:List ByteArray) (po:List Po):List Po:=Ht D po.length po
theorem Co {D:List ByteArray} {po:List Po} (h:yp D po=po):∀ n,Ht D n po=po
 | 0=>rfl
 | n+1=>by rw [Ht,h];exact Co h n
theorem FW {D:List ByteArray}:∀ (n:Nat) (po:List Po) (f:Po->Bool),Sw po D f->(po.filter f).length<=n ->
  ∃ g:Po->Bool,Sw po D g/\Ht D n (po.filter f)=po.filter g/\yp D (po.filter g)=po.filter g
 | 0, po, f, h, hl => by
  have e:po.filter f=[]:=Z6 (by omega);exact ⟨f,h,I,by rw [e];rfl⟩
 | n + 1, po, f, h, hl => by
  have hS:Sw po D fun p=>f p&&(jL D p.ou||(po.filter f).any fun q=>decide (q.lv=p.lv)&&decide (q.ip=p.ou)):=by
   refine ⟨fun p hp hd=>?_,fun p hp q hq hf e1 e2=>?_⟩
   ·have:=h.de p hp hd;show (f p&&(jL D p.ou||_))=true;rw [this,fG.2 hd];rfl
   ·rw [Zn] at hf;have h1:=h.up p hp q hq hf.1 e1 e2;rw [h1,Zau,ZR]
    right
    rw [ZQ];exact ⟨q,Zr.2 ⟨hq,hf.1⟩,by simp [e1,e2]⟩
  have e:yp D (po.filter f)=po.filter fun p=>f p&&(jL D p.ou||(po.filter f).any fun q=>decide (q.lv=p.lv)&&decide (q.ip=p.ou)):=by
   unfold yp;rw [ZbA];refine Zbe fun p _=>?_;rw [Bool.and_comm]
  by_cases hfx:yp D (po.filter f)=po.filter f
  ·exact ⟨f,h,Co hfx _,hfx⟩
  ·have aM:(yp D (po.filter f)).length<(po.filter f).length:=by
    have hle:(yp D (po.filter f)).length<=(po.filter f).length:=ZY _ _;rcases Zbi (yp D (po.filter f)).length (po.filter f).length with h1 | h1
    ·exact h1
    ·exact absurd (List.filter_sublist.eq_of_length (Nat.le_antisymm hle h1)) hfx
   rw [Ht,e];exact FW n po _ hS (by rw [<- e];omega)
structure Swd (po:List Po) (D:List ByteArray) (f:Po->Bool):Prop where
 sw:Sw po D f
 us:∀ p∈po,f p=true->p.ou∈D\/∃ q∈po,f q=true/\q.lv=p.lv/\q.ip=p.ou
theorem FX (D:List ByteArray) (po:List Po):∃ g,Swd po D g/\AD D po=po.filter g:=by
 obtain ⟨g,h1,h2,h3⟩:=FW (D:=D) po.length po (fun _=>true) ⟨fun _ _ _=>rfl,fun _ _ _ _ _ _ _=>rfl⟩ (ZY _ _);rw [ZaK.2 fun _ _=>rfl] at h2
 refine ⟨g,⟨h1,fun p hp hg=>?_⟩,h2⟩;have hm:p∈yp D (po.filter g):=by rw [h3];exact Zr.2 ⟨hp,hg⟩
 have:=(Zr.1 hm).2;rw [ZR,fG,ZQ] at this;rcases this with h | ⟨q,hq,e⟩
 ·exact .inl h
 ·rw [Zn,decide_eq_true_eq,decide_eq_true_eq] at e;obtain ⟨a,b⟩:=Zr.1 hq;exact .inr ⟨q,a,b,e.1,e.2⟩
structure NR (r:Ro) (po:List Po):Prop where
 one:tu po
 out:∀ p∈po,p.ou∈cy r\/p.ou∈cR r
 yf:∀ p∈po,p.ip∈cK r\/p.ip∈cR r
 D1:∀ v,¬ ∃ t∈cR r,t∈fJ po v ((cR r).length+1) t
theorem jP.acy (h:jP r po):NR r po:=⟨jP.one h.sq,h.out,h.yf,h.D1⟩
theorem NR.sub (h:NR r po) (f:Po->Bool):NR r (po.filter f):=by
 have hs:∀ p∈po.filter f,p∈po:=fun p hp=>(Zr.1 hp).1
 exact ⟨h.one.filter f,fun p hp=>h.out p (hs p hp),fun p hp=>h.yf p (hs p hp),fun v ⟨t,ht,hc⟩=>h.D1 v ⟨t,ht,BI h.one hs hc⟩⟩
theorem NR.short (hn:oT r) {po:List Po} (h:NR r po):∀ v o m,(cR r).length+1<=m->fJ po v m o=fJ po v ((cR r).length+1) o:=fun v o m hm=>
 qL (T:=cR r) (jP.tie hn h.out h.yf) (h.D1 v) o hm
theorem NR.tid (hn:oT r) {po:List Po} (h:NR r po) {f:Po->Bool} (hf:Swd po (cy r) f):po.filter f=AD (cy r) po:=by
 obtain ⟨g,hg,e⟩:=FX (cy r) po;rw [e];exact O6 h.one (h.short hn) hf.sw.de hf.sw.up hf.us hg.sw.de hg.sw.up hg.us
def Tk.at (t:Tk) (k:Nat):ByteArray:=t.so.getD k ⟨#[]⟩
def Tk.zero:Tk:=⟨⟨#[]⟩,[]⟩
def lQ (r:Ro) (t:Tk) (k:Nat):Bool:=!decide (t.at k=⟨#[]⟩)&&!decide (t.at k=jD r (k:Nat) t.de)
def ll (r:Ro) (t:Tk):Nat->List Po->List Po
 | 0,po=>po
 | k+1,po=>if lQ r t k then (ll r t k po).filter (fun x=>!r6 (k:Nat) t.de x) else ll r t k po
def jC (r:Ro) (l:List Tk):Nat->List Po
 | 0=>r.po
 | i+1=>ll r (l.getD i Tk.zero) (l.getD i Tk.zero).so.length (jC r l i)
def dash:ByteArray:=⟨#[45]⟩
def mE (r:Ro) (t:Tk) (k:Nat):Bool:=lQ r t k&&!decide (t.at k=dash)
def mC (r:Ro) (t:Tk):Nat->List Po->Option (List Po)
 | 0,po=>some po
 | k+1,po=>(mC r t k po).bind fun q=>if mE r t k then (lp (r.wp q) (k:Nat) (t.at k) t.de).map fun p=>kV r q (k:Nat) (t.at k) p t.de else some q
def iR (r:Ro) (l:List Tk) (po:List Po):Nat->Option (List Po)
 | 0=>some po
 | i+1=>(iR r l po i).bind (mC r (l.getD i Tk.zero) (l.getD i Tk.zero).so.length)
theorem zn {t:Tk} (h:mC r t k po=none):∀ {m},k<=m->mC r t m po=none:=by
 intro m hm
 induction hm with
 | refl=>exact h
 | step _ ih=>rw [mC,ih];rfl
theorem tI {l:List Tk} (h:iR r l po k=none):∀ {m},k<=m->iR r l po m=none:=by
 intro m hm
 induction hm with
 | refl=>exact h
 | step _ ih=>rw [iR,ih];rfl
def EC (r:Ro) (l:List Tk) (po:List Po):Nat:=((List.range l.length).find? fun i=>(iR r l po (i+1)).isNone).getD 0
theorem Gd {l:List Tk} {i:Nat} (hi:i<l.length) {q:List Po} (h1:iR r l po i=some q) (h2:iR r l po (i+1)=none):EC r l po=i:=by
 unfold EC;have:(List.range l.length).find? (fun i=>(iR r l po (i+1)).isNone)=some i:=by
  rw [List.find?_eq_some_iff_append];refine ⟨by rw [h2];rfl,List.range i,(List.range (l.length-i-1)).map (fun x=>x+i+1),?_,fun j hj=>?_⟩
  ·apply List.ext_getElem
   ·simp;omega
   ·intro n a b;rw [Zbz];rcases Zal n i with c | c | c
    ·rw [Zat (by simpa using c)];simp
    ·subst c;rw [Zap (by simp)];simp
    ·rw [Zap (by simp;omega)];simp only [ZaF];obtain ⟨d,hd⟩:∃ d,n-i=d+1:=⟨n-i-1,by omega⟩;simp only [hd,List.getElem_cons_succ,Z2,Zbz];omega
  ·have hj:=ZX.1 hj;cases hn:iR r l po (j+1) with
   | some _=>rfl
   | none=>rw [tI hn (show j+1<=i by omega)] at h1;cases h1
 rw [this];rfl
def q8 (r:Ro) (l:List Tk):Int:=iT (fun t=>(r.de.getD (bA (cy r) t.de).toNat ⟨⟨#[]⟩,0,false⟩).pr) l
def Ro.nil:Ro:=⟨0,0,[],[],[],[]⟩
def iY (r:Ro) (l:List Tk):Ro×Int×Int:=
 if 0<=q8 r l then (Ro.nil,q8 r l,31) else
 match iR r l (AD (cy r) (jC r l l.length)) l.length with
 | none=>(Ro.nil,(EC r l (AD (cy r) (jC r l l.length)):Nat),18)
 | some po=>(r.wp po,0,0)
structure D3 (r:Ro) (l:List Tk):Prop where
 de:∀ t∈l,t.de∈cy r
 nd:(l.map Tk.de).Nodup
 lv:∀ t∈l,(t.so.length:Int)=r.lv
 so:∀ t∈l,∀ s∈t.so,s=⟨#[]⟩\/s=dash\/s∈cK r
 Bz:l.length<=8
theorem D3.wp {l:List Tk} (h:D3 r l) (q:List Po):D3 (r.wp q) l:=⟨h.de,h.nd,h.lv,h.so,h.Bz⟩
def Qf (r:Ro) (t:Tk) (k:Nat) (p:Po):Bool:=(List.range k).any fun i=>lQ r t i&&r6 (i:Nat) t.de p
theorem lR (r:Ro) (t:Tk):∀ (k:Nat) (po:List Po),ll r t k po=po.filter fun p=>!Qf r t k p
 | 0,po=>by rw [ll,ZaK.2 fun p _=>by simp [Qf]]
 | k + 1, po => by
  rw [ll,lR r t k po];have e:∀ p,Qf r t (k+1) p=(Qf r t k p||(lQ r t k&&r6 (k:Nat) t.de p)):=fun p=>by
   unfold Qf;rw [Zbq,List.any_append];simp
  split
  ·rename_i h;rw [ZbA];refine Zbe fun p _=>?_;rw [e,h,Zau,Bool.not_or,Bool.and_comm]
  ·rename_i h;refine Zbe fun p _=>?_;rw [e,Zay.2 h,Bool.false_and,Bool.or_false]
def MH (r:Ro) (l:List Tk) (i:Nat) (p:Po):Bool:=(List.range i).any fun j=>Qf r (l.getD j Tk.zero) (l.getD j Tk.zero).so.length p
theorem jr (r:Ro) (l:List Tk):∀ i,jC r l i=r.po.filter fun p=>!MH r l i p
 | 0=>by rw [jC,ZaK.2 fun p _=>by simp [MH]]
 | i + 1 => by
  rw [jC,lR,jr r l i,ZbA];refine Zbe fun p _=>?_;have e:MH r l (i+1) p=(MH r l i p||Qf r (l.getD i Tk.zero) (l.getD i Tk.zero).so.length p):=by
   unfold MH;rw [Zbq,List.any_append];simp
  rw [e,Bool.not_or,Bool.and_comm]
theorem GV {t:Tk}:Qf r t k p=true↔∃ i,i<k/\lQ r t i=true/\p.lv=(i:Nat)/\p.ou=t.de:=by
 unfold Qf r6;simp [ZQ]
theorem Qg {l:List Tk}:MH r l l.length p=true↔∃ t∈l,∃ i,i<t.so.length/\lQ r t i=true/\p.lv=(i:Nat)/\p.ou=t.de:=by
 unfold MH;rw [ZQ];constructor
 ·rintro ⟨j,hj,h⟩;have hj:=ZX.1 hj;rw [Zk,Zc hj] at h;exact ⟨l[j],Zj hj,GV.1 h⟩
 ·rintro ⟨t,ht,h⟩;obtain ⟨j,hj,rfl⟩:=ZA ht;refine ⟨j,ZX.2 hj,?_⟩;rw [Zk,Zc hj];exact GV.2 h
end Go.Proofs.A1
