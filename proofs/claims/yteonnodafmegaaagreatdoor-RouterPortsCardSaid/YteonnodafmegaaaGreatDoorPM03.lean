/- Parts of the proof: GkRow GkLoop GkRange GkSlice K1Ty GkSeq GkMake GkTab GkAnyL GkFin. -/
import Derived.Test.YteonnodafmegaaaGreatDoorPM02
import Derived.Laws.AppendOwn
import Derived.Laws.RangeAny
import Derived.Laws.Slices
import Derived.Test.YteonnodafmegaaaGreatDoorProg
import Derived.Laws.MakeOwn
import Derived.Scope
import Derived.Lib.SliceRun
set_option linter.unusedSectionVars false
set_option linter.unusedVariables false
set_option linter.unusedSimpArgs false
namespace Go.SL
open Go
def Rd (w:World) (v:Value) (sz:Nat) (xs:List (List Value)):Prop:=
 ∃ a cap b o,v=.slice a xs.length cap/\xs.length<=cap/\cap<=maxLen/\(xs≠[]->a=some ⟨b,o,none⟩)/\∀ i r,xs[i]? = some r->r.length=sz/\∀ j u,r[j]? = some u->w.cell? ⟨b,o+i*sz+j,none⟩=some u
variable {X:Act->World->Prop} {fp:List Nat} {n sz:Nat} {v:Value} {w:World} {xs:List (List Value)}
theorem Rd.keeps {w w':World} (h:Rd w v sz xs) (hk:aI [] w w'):Rd w' v sz xs:=by
 obtain ⟨a,cap,b,o,h1,h2,HT,h3,h4⟩:=h;refine ⟨a,cap,b,o,h1,h2,HT,h3,fun i r hr=>⟨(h4 i r hr).1,fun j u hu=>?_⟩⟩;have:=(h4 i r hr).2 j u hu;have hb:=World.block_lt_of_cell? w _ this;rw [<- this];simp only [World.cell?];rw [hk.block b hb (by simp)]
theorem Rd.nil (w:World) (sz:Nat):Rd w (.z) sz []:=⟨none,0,0,0,I,Zv _,by unfold maxLen;omega,fun h=>absurd I h,fun i r h=>by simp at h⟩
theorem rd1 {b o i:Nat} {u:Value} (h:∀ i r,xs[i]? = some r->r.length=1/\∀ j u,r[j]? = some u->w.cell? ⟨b,o+i*1+j,none⟩=some u) (hr:xs[i]? = some [u]):w.cell? ⟨b,o+i*1,none⟩=some u:=(h i _ hr).2 0 u I
theorem Mem.dy {c:Cx} {hs hs':List bd} (hm:Mem c hs w) {b:Nat} {cs:List Value} {E:TypeId} {fz:Nat×Nat} (ht:Take hs (SL.bu b (.cells cs.toArray E fz)) hs') {n:Nat} (hn:cs.length=n) (hle:Nat.ble n 1000=true):Rd w (.w b n n) 1 (cs.map fun v=>[v]):=by
 subst hn;have PI:cs.length<=1000:=by simpa using hle
 refine ⟨_,cs.length,b,0,by simp,by simp,by unfold maxLen;omega,fun _=>rfl,fun i r hr=>?_⟩;rw [ZG,Zam] at hr;obtain ⟨v,hv,rfl⟩:=hr;refine ⟨I,fun j u hu=>?_⟩;cases j with
 | zero =>
  simp only [ZaC,Option.some.injEq] at hu;subst hu;rw [cell_of_block (hm.bu ht)];simpa using hv
 | succ j=>simp at hu
def row (E:TypeId) (sz:Nat) (v:Value) (n:Nat) (xs:List Value):bd where
 sat h fp:=fp=v.ownBlock.toList/\xs.length=n*sz/\((v=.z/\n=0) \/
  ∃ g cap cur,v=.w g n cap/\h g=some (.cells cur E (0,0))/\n<=cap/\cap<=maxLen/\cur.size=cap*sz/\cur.toList.take (n*sz)=xs)
 loc:=by
  rintro h h' fp ⟨e,hl,h1⟩ hb;refine ⟨e,hl,h1.imp id ?_⟩;rintro ⟨g,cap,cur,rfl,hg,r⟩;exact ⟨g,cap,cur,I,by rw [hb g (by rw [e];simp [Value.ownBlock])];exact hg,r⟩
 own:=by
  rintro h fp ⟨e,hl,h1⟩ b hb;rcases h1 with ⟨rfl,_⟩ | ⟨g,cap,cur,rfl,hg,_⟩
  ·rw [e] at hb;simp [Value.ownBlock] at hb
  ·rw [e] at hb;simp [Value.ownBlock] at hb;subst hb;exact ⟨_,hg⟩
theorem vY {E:TypeId} {xs:List Value} (h:(row E sz v n xs).sat (hp w) fp):w.ownsRow 0 E sz v n xs:=by
 obtain ⟨_,hl,h1⟩:=h;exact ⟨hl,h1.imp id fun ⟨g,cap,cur,e,hg,r⟩=>⟨g,cap,cur,e,Zi _,hg,r⟩⟩
theorem kW {E:TypeId} {xs:List Value} (h:w.ownsRow 0 E sz v n xs):(row E sz v n xs).sat (hp w) v.ownBlock.toList:=by
 obtain ⟨hl,h1⟩:=h;exact ⟨I,hl,h1.imp id fun ⟨g,cap,cur,e,_,hg,r⟩=>⟨g,cap,cur,e,hg,r⟩⟩
theorem Mem.SM {c:Cx} {hs:List bd} (hm:Mem c hs w) (E:TypeId) (sz:Nat):Mem c (row E sz (.z) 0 []::hs) w:=
 Mem.change (As:=[]) (Bs:=[row E sz (.z) 0 []]) hm fun fp _ hf=>by
  rw [show fp=[] from hf];exact ⟨.refl _ _,[],Zao,⟨[],[],I,⟨I,by simp,.inl ⟨I,I⟩⟩,I⟩,by simp⟩
theorem aJ {c:Cx} {D:List Nat} {sl:aN} {hs:List bd} (E:TypeId) (sz:Nat) (k:Tr c D sl (row E sz (.z) 0 []::hs) X):Tr c D sl hs X:=fun a w bb=>
 k a w (bb.heap (bb.mem.SM E sz))
theorem pT {sz j:Nat} {r:List Value} {u:Value}:∀ (xs:List (List Value)) (i:Nat),(∀ r∈xs,r.length=sz)->xs[i]? = some r->r[j]? = some u->xs.flatten[i*sz+j]? = some u
 | [],i,_,hr,_=>by simp at hr
 | x :: xs, 0, hx, hr, hu => by
  simp at hr;subst hr;rw [Zak,Zx (by rw [Zbh,ZF];exact (Zl.1 hu).1),Zbh,ZF];exact hu
 | x :: xs, i + 1, hx, hr, hu => by
  have Pu:=hx x (by simp);rw [Zak,ZC (by rw [Pu,Zac];omega),Pu,Zac,show i*sz+sz+j-sz=i*sz+j from by omega];exact pT xs i (fun r Ns=>hx r (by simp [Ns])) (by simpa using hr) hu
theorem SK {E:TypeId} (hx:∀ r∈xs,r.length=sz) (hn:xs.length=n) (h:(row E sz v n xs.flatten).sat (hp w) fp):Rd w v sz xs:=by
 subst hn;obtain ⟨_,hl,h1⟩:=h;rcases h1 with ⟨rfl,hn⟩ | ⟨g,cap,cur,rfl,hg,dC,hm,hsz,fD⟩
 ·have:xs=[]:=Zav.1 hn;subst this;exact Rd.nil w sz
 ·refine ⟨_,cap,g,0,I,dC,hm,fun _=>rfl,fun i r hr=>⟨hx r (Z2 hr),fun j u hu=>?_⟩⟩;have W3:w.heap[g]? = some (.cells cur E (0,0)):=hg;rw [cell_of_block W3];have Ww:=hx r (Z2 hr);have hi:i<xs.length:=(Zl.1 hr).1;have hj:j<sz:=by rw [<- Ww];exact (Zl.1 hu).1
  have Rq:xs.flatten[i*sz+j]? = some u:=pT xs i hx hr hu;have aL:i*sz+j<xs.length*sz:=by
   have:(i+1)*sz<=xs.length*sz:=Z0 _ hi;rw [Zac] at this;omega
  rw [<- fD,ZN,if_pos aL] at Rq;simpa using Rq
theorem Mem.qY {c:Cx} {hs hs':List bd} (hm:Mem c hs w) {E:TypeId} {sz:Nat} {v:Value} {n:Nat} {ys:List Value} {xs:List (List Value)} (ht:Take hs (row E sz v n ys) hs') (he:ys=xs.flatten) (hx:∀ r∈xs,r.length=sz) (hn:xs.length=n):Rd w v sz xs:=by
 subst he;obtain ⟨_,fp,_,⟨f1,f2,_,h1,_⟩,_⟩:=hm.take ht;exact SK hx hn h1
theorem mj {α:Type} (l:List α):(l.map fun v=>[v]).flatten=l:=by
 induction l with
 | nil=>rfl
 | cons x l ih=>simp [ih]
theorem Mem.KD {c:Cx} {hs hs':List bd} (hm:Mem c hs w) {E:TypeId} {v:Value} {n:Nat} {ys:List Value} (ht:Take hs (row E 1 v n ys) hs') (hn:ys.length=n):Rd w v 1 (ys.map fun u=>[u]):=
 hm.qY ht (mj ys).symm (fun r hr=>by obtain ⟨u,_,rfl⟩:=Zw.1 hr;rfl) (by simpa using hn)
theorem cm {c:Cx} {D:List Nat} {sl:aN} {hs hs':List bd} {E:TypeId} {xs:List Value} (ht:Take hs (row E sz v n xs) hs') (hn:0<n)
  (k:∀ g cap cur,v=.w g n cap->n<=cap->cap<=maxLen->(xs++cur).length=cap*sz->xs.length=n*sz->Tr c D sl (bu g (.cells (xs++cur).toArray E (0,0))::hs') X):Tr c D sl hs X:=fun a w bb=>by
 have hm:=bb.mem.take (ht.append _);obtain ⟨kk,fp,iB,⟨f1,f2,rfl,⟨e,hl,h1⟩,h2⟩,hb⟩:=hm;rcases h1 with ⟨_,h0⟩ | ⟨g,cap,cur,rfl,hg,dC,pO,hsz,fD⟩
 ·omega
 ·have oF:cur=(xs++cur.toList.drop (n*sz)).toArray:=by
   rw [<- fD,ZX]
  have hlen:(xs++cur.toList.drop (n*sz)).length=cap*sz:=by rw [<- fD,ZX];simpa using hsz
  refine k g cap (cur.toList.drop (n*sz)) I dC pO hlen hl a w (bb.heap ⟨kk,f1++f2,iB,⟨f1,f2,I,⟨?_,?_⟩,h2⟩,hb⟩)
  ·rw [e];rfl
  ·rw [<- oF];exact hg
theorem Mem.OB {c:Cx} {hs:List bd} {E:TypeId} {sz g n cap:Nat} {xs cur:List Value} (hm:Mem c (SL.bu g (.cells (xs++cur).toArray E (0,0))::hs) w) (dC:n<=cap) (pO:cap<=maxLen) (hsz:(xs++cur).length=cap*sz) (hl:xs.length=n*sz):Mem c (row E sz (.w g n cap) n xs::hs) w:=by
 obtain ⟨kk,fp,iB,⟨f1,f2,rfl,⟨e,hg⟩,h2⟩,hb⟩:=hm;refine ⟨kk,f1++f2,iB,⟨f1,f2,I,⟨by rw [e];rfl,hl,.inr ⟨g,cap,_,I,hg,dC,pO,by simpa using hsz,?_⟩⟩,h2⟩,hb⟩;simp [<- hl]
theorem ct {c:Cx} {D:List Nat} {sl:aN} {hs hs':List bd} {E:TypeId} {sz g n cap:Nat} {xs cur:List Value} (ht:Take hs (bu g (.cells (xs++cur).toArray E (0,0))) hs') (dC:n<=cap) (pO:cap<=maxLen) (hsz:(xs++cur).length=cap*sz) (hl:xs.length=n*sz)
  (k:Tr c D sl (row E sz (.w g n cap) n xs::hs') X):Tr c D sl hs X:=fun a w bb=>
 k a w (bb.heap (Mem.OB (bb.mem.take (ht.append _)) dC pO hsz hl))
section
variable {P:Program} {r:Option Nat} {c:Cx} {D:List Nat} {sl:aN} {hs hs':List bd} {ops:Array Oper} {Q:Exit->Act->World->Prop} {d:Nat} {ty:TypeId} {pos:String} {af:Array Edge} {rest:List Oper}
variable {z:Value}
theorem oL {w w':World} {t ty e:TypeId} {i:TypeInfo} (ht:P.underlying t=some (.slice e)) (hi:P.info? e=some i) (hz:i.zero=some z)
  {v v':Value} {n:Nat} {xs:List Value} (pN:w.ownsRow 0 e i.size v n xs) {a:Addr} {m cp:Nat} {news:List Value} (hl:news.length=m*i.size) (sC:∀ j u,news[j]? = some u->w.cell? (a.add j)=some u) (h1:∀ u∈news,u.oneCell'=true)
  (h63:n+m<=maxLen) (gG:(n+m)*i.bytes<=140737488355328) (iE:(Builtin.append_ #[t,t] ty #[v,.slice (some a) m cp]).run P w=.ok v' w'):(v'.ownBlock=v.ownBlock\/v'.ownBlock=some w.heap.size)/\w.drawn<=w'.drawn:=by
 have aaO:n+m<=9223372036854775807:=by simp only [maxLen] at h63;omega
 rcases pN.2 with ⟨rfl,rfl⟩ | ⟨g,cap,cur,rfl,Uc,hg,hnc,hcm,Rv,fD⟩
 ·by_cases hm:m=0
  ·subst hm;have hn:news=[]:=Z5 (by simpa using hl);subst hn;have:(Builtin.append_ #[t,t] ty #[.z,.slice (some a) 0 cp]).run P w=.ok (.z) w:=by
    simp [Builtin.append_,aX ht,sizeOf,typeInfo,hi,Builtin.lenOf,Builtin.firstCells,loadCells,loadCellsFrom]
   rw [iE] at this;cases this;exact ⟨.inl I,Zv _⟩
  ·have hr:=run_append_nil (P:=P) w t ty e i z ht hi hz a m cp news hl sC (by omega) (by omega) (by have hb:=gG;simp only [ZF] at hb;omega);rw [iE] at hr;cases hr;exact ⟨.inr I,Nat.le_succ _⟩
 ·by_cases zw:n+m<=cap
  ·have hfit:n*i.size+news.length<=cur.size:=by rw [hl,Rv,<- Nat.add_mul];exact Z0 _ zw
   have hr:=run_append_room (P:=P) w t ty e i ht hi g n cap cur hg a m cp news hl sC h1 zw hfit;rw [iE] at hr;cases hr;exact ⟨.inl I,Zv _⟩
  ·have holds:∀ j u,xs[j]? = some u->w.cell? ((⟨g,0,none⟩:Addr).add j)=some u:=pN.cells (g:=g) I;have hr:=run_append_grow (P:=P) w t ty e i z ht hi hz ⟨g,0,none⟩ n cap xs pN.1 holds a m cp news hl sC (by omega) (by omega) (growslice_fits (by omega) gG);rw [iE] at hr;cases hr;exact ⟨.inr I,Nat.le_succ _⟩
theorem yY {t e:TypeId} {agg:Bool} {size bytes:Nat} {x y:Operand} {v:Value} {n b o m cp:Nat} {xs news:List Value} [hu:iI P t (.slice e)] [hT:Ty P e agg size] [hZ:mA P e z] [hB:uW P e bytes]
  (hx:Is sl x v) (hy:Is sl y (.slice (some ⟨b,o,none⟩) m cp)) (ht:Take hs (row e size v n xs) hs') (hn:fo c hs b o news) (hl:news.length=m*size) (h1:∀ u∈news,u.oneCell'=true) (hz:z.cells.size=size) (hsz:Nat.blt 0 size=true) (hb0:Nat.blt 0 bytes=true)
  (hb:(n+m)*bytes<=140737488355328) (hd:Nat.blt d c.nt=true)
  (k:∀ v',Tr c D ((d,v')::sl) (row e size v' (n+m) (xs++news)::hs') (WL P r ops Q rest)) :
  Tr c D sl hs (WL P r ops Q (⟨some d,.call ⟨.builtin .append,#[x,y],#[t,t]⟩,ty,pos,af,none⟩::rest)):=fun a w bb=>by
 obtain ⟨de,i,kz,hi,_,gK⟩:=Ty.parts (P:=P) (t:=e) (agg:=agg) (n:=size);have hzero:i.zero=some z:=by have:=hZ.eq;rw [hi] at this;simpa using this
 have gG:i.bytes=bytes:=by have:=hB.eq;rw [hi] at this;simpa using this
 have YI:=bb.pE;have hm:=bb.mem.take (ht.append _);obtain ⟨kk,fp,iB,⟨f1,f2,rfl,hrow,h2⟩,Bh⟩:=hm;have pN:=vY hrow;have xi:0<bytes:=by simpa using hb0
 have ch:n+m<=maxLen:=by
  have:(n+m)*1<=(n+m)*bytes:=Zbg _ xi;unfold maxLen;omega
 obtain ⟨v',w',iE,pM,sE,_⟩:=run_append_own (P:=P) w 0 t ty e i z size bytes hu.eq hi hzero gK gG hz (by simpa using hsz) v n xs pN ⟨b,o,none⟩ m cp news hl
  (fun j u hj=>by rw [eO];exact hn.get j u hj w YI) h1 ch hb (Zi _)
 have tG:=oL (P:=P) (t:=t) (ty:=ty) hu.eq hi hzero (by rw [gK];exact pN) (a:=⟨b,o,none⟩) (m:=m) (cp:=cp) (by rw [gK];exact hl) (fun j u hj=>by rw [eO];exact hn.get j u hj w YI) h1 ch (by rw [gG];exact hb) iE
 refine mJ I ⟨eh _ _ _ _ _,?_⟩;rw [Oper.semAt_eq _ _ _ (by simp)];have:(execOp a.eval ⟨some d,.call ⟨.builtin .append,#[x,y],#[t,t]⟩,ty,pos,af,none⟩).run P w=.ok (.value v') w':=by
  simp [execOp,resolve,invoke,builtin,hx a bb.dw,hy a bb.dw,iE]
 rw [this];refine k v' _ _ ((bb.put (by simpa [Z8] using hd) v').heap ?_);have hm:Mem c ([row e size v n xs]++(hs'++nF D)) w:=⟨kk,f1++f2,iB,⟨f1,f2,I,hrow,h2⟩,Bh⟩;have:=Mem.change (Bs:=[row e size v' (n+m) (xs++news)]) (w':=w') hm fun fp uy hf=>by
  obtain ⟨g1,g2,e1,hr,e2⟩:=hf;have BX:fp=v.ownBlock.toList:=by rw [e1,show g2=[] from e2,hr.1];simp
  refine ⟨⟨sE.os,sE.tape,sE.output,tG.2,sE.size,fun q hq WN=>sE.block q hq (fun he=>WN ?_)⟩,v'.ownBlock.toList,?_,⟨_,[],by simp,kW pM,I⟩,fun q hq=>?_⟩
  ·rw [BX,<- he];simp
  ·cases v'.ownBlock <;> simp
  ·have ux:v'.ownBlock=some q:=by simpa [Option.mem_toList] using hq
   rcases tG.1 with h | h
   ·left;rw [BX,<- h,ux];simp
   ·right
    rw [h] at ux;cases ux;exact Zv _
 simpa using this
end
end Go.SL
namespace Go.SL
open Go
def DQ {ι:Type} (c:Cx) (D:List Nat) (Φ:ι->Prop) (sI:ι->aN) (hI:ι->List bd) (μ:ι->Nat) (i:ι):Act->World->Prop:=fun a w=>∃ j,Φ j/\μ j<μ i/\St c D (sI j) (hI j) a w
def zT {ι:Type} (c:Cx) (D:List Nat) (Φ:ι->Prop) (sI:ι->aN) (hI:ι->List bd):Act->World->Prop:=fun a w=>∃ i,Φ i/\St c D (sI i) (hI i) a w
section
variable {P:Program} {r:Option Nat} {c:Cx} {D:List Nat} {sl:aN} {hs hs':List bd} {Q:Exit->Act->World->Prop} {ι:Type} {Φ:ι->Prop} {sI:ι->aN} {hI:ι->List bd} {μ:ι->Nat}
theorem aV {x:Code} (Φ:ι->Prop) (sI:ι->aN) (hI:ι->List bd) (μ:ι->Nat) (h0:Tr c D sl hs (zT c D Φ sI hI))
  (round:∀ i,Φ i->Tr c D (sI i) (hI i) (WP P r x (Exit.then (DQ c D Φ sI hI μ i) Q))):Tr c D sl hs (WP P r (.loop x) Q):=
 N1 Φ sI hI μ h0 round
def mu (sl:aN):aN->Prop
 | []=>True
 | (t,v)::r=>dj sl t=some v/\mu sl r
theorem mu.get:∀ {jV:aN},mu sl jV->∀ t v,dj jV t=some v->dj sl t=some v
 | [],_,t,v,h=>by cases h
 | (u, x) :: r, ⟨h1, h2⟩, t, v, h => by
  by_cases e:u=t
  ·subst e;rw [gr] at h;cases h;exact h1
  ·rw [gq e] at h;exact mu.get h2 t v h
theorem mu.nil:mu sl []:=trivial
variable {s:ByteArray} {t:Nat} {x:Operand}
theorem mu.cons {v:Value} {r:aN} (h:dj sl t=some v) (k:mu sl r):mu sl ((t,v)::r):=⟨h,k⟩
theorem mu.Mx {v u:Value} {r:aN} (h:dj sl t=some u) (e:u=v) (k:mu sl r):mu sl ((t,v)::r):=⟨e ▸ h,k⟩
theorem St.weaken {jV:aN} {hs1 rest:List bd} {a:Act} {w:World} (h:St c D sl hs a w) (hs':mu sl jV) (ht:bj hs hs1 rest):St c D jV hs1 a w:=by
 refine ⟨?_,h.dw.sub hs'.get,h.size,h.defers⟩;have h1:=h.mem.jA (ht.append (nF D))
 -- hs1++(rest++nF):forget DV rest
 obtain ⟨k,fp,hn,gi,hb⟩:=h1;obtain ⟨f1,f2,rfl,s1,s2⟩:=cy.append_iff.1 gi;obtain ⟨g1,g2,rfl,s3,s4⟩:=cy.append_iff.1 s2;refine ⟨k,f1++g2,?_,cy.append_iff.2 ⟨f1,g2,I,s1,s4⟩,fun b dQ=>hb b ?_⟩
 ·obtain ⟨n1,n2,n3⟩:=ZI.1 hn;obtain ⟨_,n5,_⟩:=ZI.1 n2;exact ZI.2 ⟨n1,n5,fun x hx y hy=>n3 x hx y (ZT _ hy)⟩
 ·rcases Zz.1 dQ with h | h
  ·exact ZH _ h
  ·exact ZT _ (ZT _ h)
theorem aG {i:ι} (j:ι) {rest:List bd} (hΦ:Φ j) (hμ:μ j<μ i) (hs1:mu sl (sI j)) (ht:bj hs (hI j) rest):Tr c D sl hs (DQ c D Φ sI hI μ i):=
 fun a w bb=>⟨j,hΦ,hμ,bb.weaken hs1 ht⟩
theorem aH (j:ι) {rest:List bd} (hΦ:Φ j) (hs1:mu sl (sI j)) (ht:bj hs (hI j) rest):Tr c D sl hs (zT c D Φ sI hI):=
 fun a w bb=>⟨j,hΦ,bb.weaken hs1 ht⟩
def R8 (c:Cx) (D:List Nat) {ι:Type} (Φ:ι->Prop) (sM:ι->aN) (hM:ι->List bd):Act->World->Prop:=fun a w=>∃ x,Φ x/\St c D (sM x) (hM x) a w
theorem J6 {x y:Code} (Φ:ι->Prop) (sM:ι->aN) (hM:ι->List bd) (h1:Tr c D sl hs (WP P r x (Exit.then (R8 c D Φ sM hM) Q))) (h2:∀ x,Φ x->Tr c D (sM x) (hM x) (WP P r y Q)):Tr c D sl hs (WP P r (.seq x y) Q):=
 pg fun a w bb=>wpIn_mono (h1 a w bb) fun e a' w' h=>by
  cases e with
  | normal=>obtain ⟨x,hx,hs⟩:=h;exact h2 x hx a' w' hs
  | _=>exact h
theorem u0 (x:ι) {sM:ι->aN} {hM:ι->List bd} {rest:List bd} (hΦ:Φ x) (h1:mu sl (sM x)) (ht:bj hs (hM x) rest):Tr c D sl hs (R8 c D Φ sM hM):=fun a w bb=>⟨x,hΦ,bb.weaken h1 ht⟩
variable {ops:Array Oper} {d:Nat} {dst:Option Tmp} {ty:TypeId} {pos:String} {af:Array Edge} {g:Option (Nat×Bool)} {rest:List Oper}
theorem Hk {t:TypeId} [hu:iI P t .string] (hx:Is sl x (.string s)):qR P c sl hs ⟨dst,.range t x,ty,pos,af,g⟩ (fun b=>.p b) (.stringIter s 0):=
 ⟨by simp,fun a w ha _=>by simp [execOp,hx a ha,Instr.range,aX hu.eq]⟩
theorem JZ {b p:Nat} (hx:Is sl x (.p b)) (ht:Take hs (bu b (.stringIter s p)) hs') (hd:Nat.blt d c.nt=true)
  (kt:p<s.size->Tr c D ((d,.tuple [Value.bool true,.q p,.int .i32 (Utf8.decode s p).1].toArray)::sl) (bu b (.stringIter s (p+(Utf8.decode s p).2))::hs') (WL P r ops Q rest))
  (kf:¬ p<s.size->Tr c D ((d,.tuple [Value.bool false].toArray)::sl) (bu b (.stringIter s p)::hs') (WL P r ops Q rest)) :
  Tr c D sl hs (WL P r ops Q (⟨some d,.next x true,ty,pos,af,none⟩::rest)):=fun a w bb=>by
 have hm:=bb.mem.take (ht.append _);have hb:w.heap[b]? = some (.stringIter s p):=hm.bu .here;have aL:=lf (w:=w) hb;refine mJ I ⟨eh _ _ _ _ _,?_⟩;rw [Oper.semAt_eq _ _ _ (by simp)];by_cases h:p<s.size
 ·have:(execOp a.eval ⟨some d,.next x true,ty,pos,af,none⟩).run P w=.ok (.value (.tuple [Value.bool true,.q p,.int .i32 (Utf8.decode s p).1].toArray)) (setBlock w b (.stringIter s (p+(Utf8.decode s p).2))):=by
   simp [execOp,hx a bb.dw,Instr.next,getObj,setObj,Sem.run,hb,h,goInt,setBlock]
  rw [this];exact kt h _ _ ((bb.put (by simpa [Z8] using hd) _).heap (Mem.store hm (aI.setBlock w b _) (nb aL)))
 ·have:(execOp a.eval ⟨some d,.next x true,ty,pos,af,none⟩).run P w=.ok (.value (.tuple [Value.bool false].toArray)) w:=by
   simp [execOp,hx a bb.dw,Instr.next,getObj,Sem.run,hb,h]
  rw [this];exact kf h _ _ ((bb.put (by simpa [Z8] using hd) _).heap hm)
structure KeyLaw (kind:TypeDesc) {κ:Type} [DecidableEq κ] (kv:κ->Value):Prop where
 same:∀ a b,Instr.sameNow kind (kv a) (kv b)=some (decide (a=b))
 bits:∀ a,Instr.sameBits 10000 (kv a) (kv a)=true
 flat:∀ (P:Program) (t:TypeId) (e:Bool) (w:World) (a:κ),P.underlying t=some kind->(Instr.checkKey e 10000 t (kv a)).run P w=.ok () w
structure K8 {κ:Type} (kv:κ->Value) (l:List (κ×Value)) (es:Array MapEntry) (ck:Nat):Prop where
 eq:es.toList.map (fun e=>(e.key,e.val))=l.map (fun p=>(kv p.1,p.2))
 nd:(es.toList.map (·.born)).Nodup
 lt:∀ x∈es.toList,x.born<ck
def mp {κ:Type} (kv:κ->Value) (b:Nat) (l:List (κ×Value)):bd where
 sat h fp:=fp=[b]/\∃ es clock,h b=some (.map es clock)/\K8 kv l es clock
 loc:=fun ⟨e,es,ck,h1,h2⟩ hb=>⟨e,es,ck,by rw [hb _ (by rw [e];simp)];exact h1,h2⟩
 own:=fun ⟨e,es,ck,h1,h2⟩ b' dQ=>by rw [e] at dQ;rw [ZD.1 dQ];exact ⟨_,h1⟩
def eS {κ:Type} [DecidableEq κ] (k:κ):List (κ×Value)->Option Value
 | []=>none
 | (x,v)::r=>if k=x then some v else eS k r
def nO {κ:Type} [DecidableEq κ] (k:κ) (v:Value):List (κ×Value)->List (κ×Value)
 | []=>[(k,v)]
 | (x,u)::r=>if k=x then (x,v)::r else (x,u)::nO k v r
section
variable {κ:Type} [DecidableEq κ] {kv:κ->Value} {kind:TypeDesc}
theorem findNow_spec (hk:KeyLaw kind kv) (k:κ):∀ (es:List MapEntry) (l:List (κ×Value)) (i:Nat),es.map (fun e=>(e.key,e.val))=l.map (fun p=>(kv p.1,p.2)) ->
  (eS k l=none/\Instr.findNow kind (kv k) es i=some none) \/
  (∃ j v,eS k l=some v/\Instr.findNow kind (kv k) es i=some (some (i+j,v))/\j<es.length/\(∃ x,l[j]? = some (x,v)/\x=k)/\∀ u,nO k u l=l.set j (k,u))
 | [],[],i,_=>.inl ⟨rfl,rfl⟩
 | [],_::_,i,h=>by simp at h
 | _::_,[],i,h=>by simp at h
 | e :: es, (x, v) :: l, i, h => by
  simp only [Z4,List.cons.injEq,Prod.mk.injEq] at h;obtain ⟨⟨h1,h2⟩,h3⟩:=h;have hs:=hk.same k x;unfold Instr.findNow;rw [h1,hs];by_cases e':k=x
  ·subst e';refine .inr ⟨0,v,by simp [eS],by simp [h2],by simp,⟨k,by simp,I⟩,fun u=>by simp [nO]⟩
  ·simp only [e',decide_false];rcases findNow_spec hk k es l (i+1) h3 with ⟨a1,a2⟩ | ⟨j,u,a1,a2,a3,⟨y,a4,a5⟩,a6⟩
   ·exact .inl ⟨by simp [eS,e',a1],a2⟩
   ·exact .inr ⟨j+1,u,by simp [eS,e',a1],by rw [a2];congr 3;omega,by simp;omega,⟨y,by simpa using a4,a5⟩,fun u'=>by simp [nO,e',a6 u']⟩
theorem zQ {k:κ} {v:Value}:∀ {l:List (κ×Value)},eS k l=none->nO k v l=l++[(k,v)]
 | [],_=>rfl
 | (x, u) :: r, h => by
  simp only [eS] at h;split at h
  ·cases h
  ·rename_i e;simp [nO,e,zQ h]
theorem D8 {t:TypeId} (kv:κ->Value) (hd:Nat.blt d c.nt=true) (k:∀ b,c.w0.heap.size<=b->Tr c D ((d,.map (some b))::sl) (mp kv b []::hs) (WL P r ops Q rest)) :
  Tr c D sl hs (WL P r ops Q (⟨some d,.makeMap t none,ty,pos,af,none⟩::rest)):=
 bh Eo hd fun b hb a w bb=>k b hb a w (bb.heap (by
  obtain ⟨kk,fp,hn,⟨f1,f2,rfl,⟨e,h1⟩,h2⟩,Bh⟩:=bb.mem;exact ⟨kk,f1++f2,hn,⟨f1,f2,I,⟨e,#[],0,h1,I,Zao,fun _ h=>by cases h⟩,h2⟩,Bh⟩))
def Looks (c:Cx) (hs:List bd) (b:Nat) (kv:κ->Value) (l:List (κ×Value)):Prop:=∀ w,Mem c hs w->∃ es clock,w.heap[b]? = some (.map es clock)/\K8 kv l es clock
variable {b:Nat} {k:κ} {l:List (κ×Value)}
theorem Looks.mp (ht:Take hs (SL.mp kv b l) hs'):Looks c hs b kv l:=fun w hm=>by
 obtain ⟨_,fp,_,⟨f1,f2,_,⟨_,es,ck,h1,h2⟩,_⟩,_⟩:=hm.take ht;exact ⟨es,ck,h1,h2⟩
theorem Hl {t kt et:TypeId} {x y:Operand} {z:Value} [hu:iI P t (.map kt et)] [HO:iI P kt kind] [hz:mA P et z] (hk:KeyLaw kind kv) (hx:Is sl x (.map (some b))) (hy:Is sl y (kv k)) (hl:Looks c hs b kv l) :
  du P c sl hs ⟨dst,.lookup t x y false,ty,pos,af,g⟩ ((eS k l).getD z):=
 ⟨by
   simp,fun a w ha hm=>by
  obtain ⟨es,ck,h1,h2⟩:=hl w hm;have hg:(getObj b).run P w=.ok (.map es ck) w:=by simp [getObj,Sem.run,h1]
  have BY:=hk.flat P kt es.isEmpty w k HO.eq;rcases findNow_spec hk k es.toList l 0 h2.eq with ⟨a1,a2⟩ | ⟨j,v,a1,a2,_⟩
  ·have:(Instr.findKey kt (kv k) es.toList).run P w=.ok none w:=by
    simp [Instr.findKey,aX HO.eq,a2]
   simp [execOp,hx a ha,hy a ha,Instr.lookup,aX hu.eq,hg,BY,this,a1,jf (t:=et) (v:=z)]
  ·have:(Instr.findKey kt (kv k) es.toList).run P w=.ok (some (0+j,v)) w:=by
    simp [Instr.findKey,aX HO.eq,a2]
   simp [execOp,hx a ha,hy a ha,Instr.lookup,aX hu.eq,hg,BY,this,a1]⟩
theorem nY {t kt et:TypeId} {x y v':Operand} {v:Value} [hu:iI P t (.map kt et)] [HO:iI P kt kind] (hk:KeyLaw kind kv) (hx:Is sl x (.map (some b))) (hy:Is sl y (kv k)) (hv:Is sl v' v) (ht:Take hs (mp kv b l) hs')
  (kk:Tr c D sl (mp kv b (nO k v l)::hs') (WL P r ops Q rest)):Tr c D sl hs (WL P r ops Q (⟨none,.mapUpdate t x y v',ty,pos,af,none⟩::rest)):=fun a w bb=>by
 have hm:=bb.mem.take (ht.append _);obtain ⟨kk0,fp,hn,⟨f1,f2,rfl,⟨e,es,ck,h1,h2⟩,h3⟩,Bh⟩:=hm;have Bp:w.heap[b]? = some (.map es ck):=h1;have hm:Mem c ([mp kv b l]++(hs'++nF D)) w:=⟨kk0,f1++f2,hn,⟨f1,f2,I,⟨e,es,ck,h1,h2⟩,h3⟩,Bh⟩;have hg:(getObj b).run P w=.ok (.map es ck) w:=by simp [getObj,Sem.run,Bp]
 have A9:∀ o,(setObj b o).run P w=.ok () (setBlock w b o):=fun o=>by simp [setObj,Sem.run,Bp,setBlock]
 have BY:=hk.flat P kt false w k HO.eq;have aL:=lf (w:=w) Bp;have iE:∃ P8 XS,(execOp a.eval ⟨none,.mapUpdate t x y v',ty,pos,af,none⟩).run P w=.ok .skip (setBlock w b (.map P8 XS))/\K8 kv (nO k v l) P8 XS:=by
  rcases findNow_spec hk k es.toList l 0 h2.eq with ⟨a1,a2⟩ | ⟨j,v0,a1,a2,hj,⟨x0,Tw,rfl⟩,qN⟩
  ·have hf:(Instr.findKey kt (kv k) es.toList).run P w=.ok none w:=by
    simp [Instr.findKey,aX HO.eq,a2]
   refine ⟨es.push { key:=kv k,val:=v,born:=ck },ck+1,?_,?_⟩
   ·simp [execOp,hx a bb.dw,hy a bb.dw,hv a bb.dw,Instr.mapUpdate,aX hu.eq,hg,BY,hf,A9]
   ·refine ⟨?_,?_,?_⟩
    ·rw [zQ a1];simp [h2.eq]
    ·simp only [Array.toList_push,Zy,Z4,Zf];refine ZI.2 ⟨h2.nd,by simp,fun x hx y hy e=>?_⟩;obtain ⟨z,hz,rfl⟩:=Zw.1 hx;have:=h2.lt z hz;simp at hy;omega
    ·intro x hx;rw [Array.toList_push,Zz] at hx;rcases hx with hx | hx
     ·have:=h2.lt x hx;omega
     ·simp at hx;subst hx;show ck<ck+1;omega
  ·have hf:(Instr.findKey kt (kv x0) es.toList).run P w=.ok (some (0+j,v0)) w:=by
    simp [Instr.findKey,aX HO.eq,a2]
   have Be:(es[j]?.map (·.key)).getD (kv x0)=kv x0:=by
    have h5:(es.toList.map (fun e=>(e.key,e.val)))[j]? = some (kv x0,v0):=by rw [h2.eq];simp [Tw]
    rw [ZG] at h5;obtain ⟨e0,BZ,LV⟩:=Zam.1 h5;simp only [Prod.mk.injEq] at LV;have:es[j]? = some e0:=by simpa using BZ
    simp [this,LV.1]
   have hks:(Instr.keyThatStays (kv x0) (kv x0)).run P w=.ok (kv x0) w:=by simp [Instr.keyThatStays,hk.bits]
   refine ⟨es.modify j fun e=>{ e with key:=kv x0,val:=v },ck,?_,?_⟩
   ·simp only [execOp,hx a bb.dw,hy a bb.dw,hv a bb.dw,Instr.mapUpdate,Sem.run_bind,aX hu.eq,Result.andThen_ok,hg,BY,hf,ZF,Be,hks,A9,Sem.run_pure]
   ·have Rx:((es.modify j fun e=>{ e with key:=kv x0,val:=v }).toList.map (·.born))=es.toList.map (·.born):=by
     rw [Array.toList_modify];apply Zat;intro q;rw [ZG,ZG,List.getElem?_modify];by_cases Va:j=q
     ·subst Va;cases es.toList[j]? <;> simp
     ·simp [Va]
    refine ⟨?_,by rw [Rx];exact h2.nd,fun x hx=>?_⟩
    rotate_left
    ·have:x.born∈es.toList.map (·.born):=by rw [<- Rx];exact Zw.2 ⟨x,hx,I⟩
     obtain ⟨y,hy,e⟩:=Zw.1 this;rw [<- e];exact h2.lt y hy
    rw [qN];rw [Array.toList_modify];apply Zat;intro q;rw [ZG,ZG,List.getElem?_modify,List.getElem?_set];have hq:(es.toList.map (fun e=>(e.key,e.val)))[q]? = (l.map (fun p=>(kv p.1,p.2)))[q]?:=by rw [h2.eq]
    rw [ZG,ZG] at hq;have hlen:es.toList.length=l.length:=by have:=congrArg List.length h2.eq;simpa using this
    by_cases Va:j=q
    ·subst Va;have IB:j<l.length:=by rw [<- hlen];exact hj
     have he:es.toList[j]? = some es.toList[j]:=Zc hj;rw [he,if_pos I,if_pos IB];simp
    ·rw [if_neg Va,<- hq];simp [Va]
 obtain ⟨P8,XS,hr,dP⟩:=iE;refine mJ I ⟨eh _ _ _ _ _,?_⟩;rw [Oper.semAt_eq _ _ _ (by simp),hr];refine kk _ _ (bb.heap ?_);have:=Mem.change (Bs:=[mp kv b (nO k v l)]) (w':=setBlock w b (.map P8 XS)) hm fun fp uy hf=>by
  obtain ⟨g1,g2,e1,Ns,e2⟩:=hf;have BX:fp=[b]:=by rw [e1,show g2=[] from e2,Ns.1];rfl
  subst BX;exact ⟨aI.setBlock w b _,[b],by simp,⟨[b],[],I,⟨I,P8,XS,nb aL,dP⟩,I⟩,fun q hq=>.inl hq⟩
 simpa using this
end
theorem Lk:KeyLaw .string (fun s:ByteArray=>Value.string s) where
 same a b:=by
  simp only [Instr.sameNow];congr 1;rw [beq_toListBytes,vb]
 bits a:=by unfold Instr.sameBits;simp [beq_toListBytes]
 flat P t e w a h:=by unfold Instr.checkKey;simp [aX h]
end
end Go.SL
namespace Go.SL
open Go
def P7 {ι:Type} (Φ:ι->Prop) (A:ι->List bd):bd where
 sat h fp:=∃ x,Φ x/\cy h (A x) fp
 loc:=fun ⟨x,hx,hs⟩ hb=>⟨x,hx,hs.loc hb⟩
 own:=fun ⟨_,_,hs⟩ b hb=>hs.own b hb
section
variable {P:Program} {r:Option Nat} {c:Cx} {D:List Nat} {sl:aN} {hs hs':List bd} {Q:Exit->Act->World->Prop} {ι:Type}
variable {A:ι->List bd} {R:Ending->World->Prop} {f:FuncId} {l:Nat} {pd:Option Code} {post:Bool->bd} {rc:Loop} {s:LoopState}
theorem Hj {tmps:Array Value} {Fl body:Code} {w:World} (h:RoundIn (FR none) 0 P l f tmps Fl body w R):RoundIn (FR r) 0 P l f tmps Fl body w R:=h
variable {ops:Array Oper} {d:Nat} {ty:TypeId} {pos:String} {af:Array Edge} {rest:List Oper}
def gP (rc:Loop) (s:LoopState) (pd:Option Code):Obj:=.loop { rc with state:=s,pending:=pd }
def qg (md:List Nat) (w:World) (post:Bool->bd):Ending->World->Prop:=fun e W'=>∃ b,e=.returned (.bool b)/\aI md w W'/\∃ mE:List Nat,mE.Nodup/\(post b).sat (hp W') mE/\∀ x∈mE,x∈md\/w.heap.size<=x
def Fu (P:Program) (l:Nat) (body:Code) (R:Ending->World->Prop):Act->World->Prop:=fun a₁ w₁=>∃ w₂,(Instr.beginRound l).run P w₁=.ok () w₂/\body.wpIn (FR (some l)) 0 P (roundPost P l R) a₁ w₂
theorem nA {body:Code} (ht:Take hs (bu l (gP rc .ready pd)) hs') (k:Tr c D sl (bu l (gP rc .busy pd)::hs') (WP P (some l) body (roundPost P l R))):Tr c D sl hs (Fu P l body R):=fun a w bb=>by
 have hm:=bb.mem.take (ht.append _);have hb:w.heap[l]? = some (gP rc .ready pd):=hm.bu .here;refine ⟨w.putObj l (gP rc .busy pd),run_beginRound (r:={ rc with state:=.ready,pending:=pd }) hb I,k a _ (bb.heap (Mem.store hm ⟨I,I,I,Zv _,by simp,fun k _ hn=>World.putObj_heap_other (by simpa using hn)⟩ (World.putObj_heap_same (lf (w:=w) hb))))⟩
theorem ze {pd jump:Option Code} (ht:Take hs (bu l (gP rc s pd)) hs') {hs2:List bd} (ht2:∀ w,Mem c (bu l (gP rc (if jump.isNone then .ready else .done) jump)::hs') w->∃ fp:List Nat,fp.Nodup/\(post jump.isNone).sat (hp w) fp/\∀ b∈fp,c.w0.heap.size<=b\/b∈c.md)
  {a:Act} {w:World} (bb:St c D sl hs a w):∃ v w',(Instr.endRound l jump).run P w=.ok v w'/\qg c.md c.w0 post (.returned v) w':=by
 have _:=hs2;have hm:=bb.mem.take (ht.append _);have hb:w.heap[l]? = some (gP rc s pd):=hm.bu .here;have hk:aI [l] w (w.putObj l (gP rc (if jump.isNone then .ready else .done) jump)):=⟨I,I,I,Zv _,by simp,fun k _ hn=>World.putObj_heap_other (by simpa using hn)⟩
 have me:=Mem.store hm hk (World.putObj_heap_same (lf (w:=w) hb));refine ⟨.bool jump.isNone,_,run_endRound (r:={ rc with state:=s,pending:=pd }) jump hb,jump.isNone,I,me.keeps,?_⟩;obtain ⟨fp,h1,h2,h3⟩:=ht2 _ (by have:=me;rw [<- Zb] at this;exact this.mn);exact ⟨fp,h1,h2,fun b hb=>(h3 b hb).symm⟩
theorem Ks {Φ:ι->Prop} (x:ι) (hx:Φ x) {As rest:List bd} (ht:bj As (A x) rest) {w:World} (hm:Mem c As w):∃ fp:List Nat,fp.Nodup/\(P7 Φ A).sat (hp w) fp/\∀ b∈fp,c.w0.heap.size<=b\/b∈c.md:=by
 obtain ⟨_,fp,hn,gi,hb⟩:=hm.jA ht;obtain ⟨f1,f2,rfl,h1,_⟩:=cy.append_iff.1 gi;exact ⟨f1,(ZI.1 hn).1,⟨x,hx,h1⟩,fun b dQ=>hb b (ZH _ dQ)⟩
theorem G9 {Φ:ι->Prop} (x:ι) {rest:List bd} (BW:post true=P7 Φ A) (ht:Take hs (bu l (gP rc s pd)) hs') (hx:Φ x) (h2:bj (bu l (gP rc .ready none)::hs') (A x) rest) :
  Tr c D sl hs (roundPost P l (qg c.md c.w0 post) .normal):=fun _ _ bb=>
 ze (jump:=none) (hs2:=[]) ht (fun w hm=>by show ∃ fp:List Nat,fp.Nodup/\(post true).sat (hp w) fp/\_;rw [BW];exact Ks x hx h2 hm) bb
theorem G8 {Φ:ι->Prop} (x:ι) {rest:List bd} (BW:post false=P7 Φ A) (ht:Take hs (bu l (gP rc s pd)) hs') (hx:Φ x) (h2:bj (bu l (gP rc .done (some .ret))::hs') (A x) rest) :
  Tr c D sl hs (roundPost P l (qg c.md c.w0 post) .ret):=fun _ _ bb=>
 ze (jump:=some .ret) (hs2:=[]) ht (fun w hm=>by show ∃ fp:List Nat,fp.Nodup/\(post false).sat (hp w) fp/\_;rw [BW];exact Ks x hx h2 hm) bb
def nj:List (Nat×Value)->aN->aN
 | [],sl=>sl
 | (t,v)::r,sl=>nj r ((t,v)::sl)
theorem zj {nt:Nat}:∀ (ps:List (Nat×Value)) (sl:aN) (tmps:Array Value),bZ sl ⟨tmps,[]⟩->tmps.size=nt->(∀ p∈ps,p.1<nt) ->
  bZ (nj ps sl) ⟨ps.foldl (fun t p=>t.setIfInBounds p.1 p.2) tmps,[]⟩/\(ps.foldl (fun (t:Array Value) p=>t.setIfInBounds p.1 p.2) tmps).size=nt
 | [],sl,tmps,h,hn,_=>⟨h,hn⟩
 | (t, v) :: ps, sl, tmps, h, hn, hp => by
  have h1:=h.put (d:=t) (by show t<tmps.size;rw [hn];exact hp (t,v) (by simp)) v;exact zj ps ((t,v)::sl) (tmps.setIfInBounds t v) h1 (by simpa using hn) (fun q hq=>hp q (by simp [hq]))
theorem Aj {g:Operand} {ps:Array Tmp} {Fl body:Code} {first cap:List Value} (hg:Is sl g (.func (.func f) first.toArray cap.toArray)) [bN P f]
  {As:Nat->Loop->List bd} {rest:List bd} {Φ:Nat->Loop->ι->Prop} {own:Nat->Loop->ι->List bd} {st:ι->LoopState} {pd:ι->Option Code}
  (ht:∀ l rc,bj (bu l (gP rc .ready none)::hs) (As l rc) rest) (bb:∀ x,st x≠.busy)
  (hc:∀ l rc,rc.params=ps->rc.assign=Fl->rc.body=body->bZ sl ⟨rc.tmps,[]⟩->rc.tmps.size=c.nt->∀ w fp,Mem c (bu l (gP rc .ready none)::hs) w->fp.Nodup->cy (hp w) (As l rc) fp->(∀ b∈fp,c.w0.heap.size<=b\/b∈c.md) ->
   a8 P f (first++[Value.func (Fn.yield l) #[] #[]]++cap) w fp (Φ l rc) (fun _=>Value.tuple #[]) (fun x=>bu l (gP rc (st x) (pd x))::own l rc x))
  (kn:∀ l rc x b,Φ l rc x->pd x=none->Tr c (b::D) sl (own l rc x++rest) (Q .normal))
  (kj:∀ l rc x b j,Φ l rc x->pd x=some j->Tr c (b::D) sl (own l rc x++rest) (WP P none j Q)) :
  Tr c D sl hs (WP P none (.rangeFunc g ps Fl body) Q):=fun a w hs0=>by
 refine wpIn_rangeFunc fun fn _=>?_
 let rc:Loop:={ state:=.ready,pending:=none,fn,tmps:=a.tmps,params:=ps,assign:=Fl,body,defers:=w.heap.size }
 let l:=w.heap.size+1
 let w1:=(w.alloc (.deferred (some []))).alloc (.loop rc)
 have hrc:gP rc .ready none=.loop rc:=rfl
 -- DV state behind DV record
 have aT:Mem c (bu w.heap.size (.deferred (some []))::(hs++nF D)) (w.alloc (.deferred (some []))):=hs0.mem.alloc _;have me:Mem c (bu l (gP rc .ready none)::bu w.heap.size (.deferred (some []))::(hs++nF D)) w1:=by
  have:=aT.alloc (.loop rc);simpa [l,w1,hrc] using this
 -- SR: DV record and hs ahead,DV new mark ad2 DV marks
 have YH:Mem c ((bu l (gP rc .ready none)::hs)++nF (w.heap.size::D)) w1:=by
  obtain ⟨k,fp,hn,⟨f1,f2,rfl,h1,⟨f3,f4,rfl,h3,h4⟩⟩,hb⟩:=me;obtain ⟨f5,f6,rfl,h5,h6⟩:=cy.append_iff.1 h4;have jE:(f1++(f3++(f5++f6))).Perm ((f1++f5)++(f3++f6)):=by
   rw [Zh];refine List.Perm.append_left f1 ?_;rw [<- Zh,<- Zh];exact List.perm_append_comm.append_right f6
  refine ⟨k,(f1++f5)++(f3++f6),jE.nodup_iff.1 hn,cy.append_iff.2 ⟨f1++f5,f3++f6,I,⟨f1,f5,I,h1,h5⟩,⟨f3,f6,I,h3,h6⟩⟩,fun b dQ=>hb b (jE.mem_iff.2 dQ)⟩
 have htk:=ht l rc;obtain ⟨k4,fp,hn,gi,hb⟩:=YH.jA (htk.append (nF (w.heap.size::D)));obtain ⟨f1,f2,rfl,h1,h2⟩:=cy.append_iff.1 gi;have cV:=hc l rc I I I hs0.dw hs0.size w1 f1 YH.mn (ZI.1 hn).1 h1 (fun b dQ=>hb b (ZH _ dQ))
 refine ⟨l,[{ target:=.collected w.heap.size,args:=#[] }],w1,{ target:=.fn (.func f) cap.toArray,args:=first.toArray++#[.func (.yield l) #[] #[]] },w1,f,(first++[Value.func (Fn.yield l) #[] #[]]++cap).toArray,w1,run_enterLoop_outer fn a.tmps ps Fl body,?_,fun _ _=>trivial,?_,by simp [FR,Fence.wide],?_⟩
 ·have:=hg a hs0.dw;simp only [resolve,rangeCall,Deferred.ofValue,this,Sem.run_bind,Sem.run_pure,Result.andThen_ok];simp [Act.eval,l]
 ·simp only [invoke];rw [ud];simp
 ·refine (jN (r:=none) cV).mono fun e w' ⟨x,he,hx,hk,mE,uy,hs',zC⟩=>?_;subst he;obtain ⟨g1,g2,rfl,PC,pN⟩:=hs';obtain ⟨rfl,hl⟩:=PC;have EU:w'.heap[l]? = some (gP rc (st x) (pd x)):=hl;refine ⟨pd x,w'.putObj l (gP rc .exhausted (pd x)),run_endLoop (r:={ rc with state:=st x,pending:=pd x }) EU (bb x),?_⟩
  -- DV state behind it all
  obtain ⟨n1,n2,n12⟩:=ZI.1 hn;have aL:∀ b∈f2,b<w1.heap.size:=fun b dQ=>let ⟨o,ho⟩:=h2.own b dQ;lf ho
  have hm5:Mem c (bu l (gP rc (st x) (pd x))::(own l rc x++(rest++nF (w.heap.size::D)))) w':=by
   refine ⟨?_,(([l]++g2)++f2),?_,?_,?_⟩
   ·refine ⟨hk.os.trans k4.os,hk.tape.trans k4.tape,hk.output.trans k4.output,ZP k4.dr hk.dr,ZP k4.size hk.size,fun b dQ hm=>?_⟩;rw [<- k4.block b dQ hm];refine hk.block b (ZaK dQ k4.size) (fun hf=>?_);rcases hb b (ZH _ hf) with h | h
    ·omega
    ·exact hm h
   ·refine ZI.2 ⟨uy,n2,fun x hx y hy e=>?_⟩;subst e;rcases zC x hx with h | h
    ·exact n12 x h x hy I
    ·have:=aL x hy;omega
   ·rw [Zh];exact ⟨[l],g2++f2,I,⟨I,hl⟩,cy.append_iff.2 ⟨g2,f2,I,pN,h2.loc fun b dQ=>hk.block b (aL b dQ) (fun hf=>n12 b hf b dQ I)⟩⟩
   ·intro b dQ;rcases Zz.1 dQ with h | h
    ·rcases zC b h with h | h
     ·exact hb b (ZH _ h)
     ·exact .inl (ZP k4.size h)
    ·exact hb b (ZT _ h)
  have hm6:Mem c ((own l rc x++rest)++nF (w.heap.size::D)) (w'.putObj l (gP rc .exhausted (pd x))):=by
   have:=(Mem.store hm5 (w':=w'.putObj l (gP rc .exhausted (pd x))) ⟨I,I,I,Zv _,by simp,fun k _ hn=>World.putObj_heap_other (by simpa using hn)⟩ (World.putObj_heap_same (lf (w:=w') EU))).xu
   rwa [Zh]
  have HI:St c (w.heap.size::D) sl (own l rc x++rest) { a with defers:=[{ target:=.collected w.heap.size,args:=#[] }]++a.defers } (w'.putObj l (gP rc .exhausted (pd x))):=
   ⟨hm6,hs0.dw,hs0.size,by simp [hs0.defers,mark]⟩
  cases hj:pd x with
  | none=>rw [hj] at HI;exact kn l rc x w.heap.size hx hj _ _ HI
  | some j=>rw [hj] at HI;exact kj l rc x w.heap.size j hx hj _ _ HI
end
end Go.SL
namespace Go.SL
open Go
section
variable {P:Program} {c:Cx} {sl:aN} {hs:List bd} {dst:Option Tmp} {ty:TypeId} {pos:String} {af:Array Edge} {g:Option (Nat×Bool)}
theorem Bz {t e:TypeId} (hu:iI P t (.slice e)):P.elem t=e:=by simp [Program.elem,hu.eq]
theorem qt {t e:TypeId} (hu:iI P t (.slice e)):P.underlying t=some (.slice (P.elem t)):=by rw [Bz hu];exact hu.eq
variable {a:Option Addr} {agg:Bool} {fz:Nat×Nat} {h:Int} {k:IntKind} {n:Nat} {v:Value} {w:World} {x y:Operand}
theorem value_of {i:Sem Value} (h:i.run P w=.ok v w):(do let x <- i;pure (Next.value x):Sem Next).run P w=.ok (.value v) w:=by
 rw [Sem.run_bind,h];rfl
theorem hY {t e:TypeId} {len cap:Nat} [hu:iI P t (.slice e)] [Ty P e agg n] (hx:Is sl x (.slice a len cap)) (hy:Is sl y (.int k h)) (h0:0<=h) (h1:h<=cap) :
  du P c sl hs ⟨dst,.slice t x none (some y) none,ty,pos,af,g⟩ (sliced a 0 h.toNat cap n):=
 ⟨by simp,fun ac w ha _=>by
  have:=run_slice_h (P:=P) w t a len cap (qt hu) k h h0 h1;simp only [execOp,hx ac ha,hy ac ha,Option.map];refine value_of ?_;rw [run_sliceAt_slice _ _ _ _ _ _ (qt hu),this,Bz hu,gj (n:=n) (agg:=agg)]
  rfl⟩
theorem od {t e:TypeId} {len cap:Nat} [hu:iI P t (.slice e)] [Ty P e agg n] (hx:Is sl x (.slice a len cap)) (hy:Is sl y (.int k h)) (h0:0<=h) (h1:h<=len) :
  du P c sl hs ⟨dst,.slice t x (some y) none none,ty,pos,af,g⟩ (sliced a h.toNat len cap n):=
 ⟨by simp,fun ac w ha _=>by
  have:=run_slice_l (P:=P) w t a len cap (qt hu) k h h0 h1;simp only [execOp,hx ac ha,hy ac ha,Option.map];refine value_of ?_;rw [run_sliceAt_slice _ _ _ _ _ _ (qt hu),this,Bz hu,gj (n:=n) (agg:=agg)]
  rfl⟩
theorem bQ {t:TypeId} {b o:Nat} {cs vs:List Value} {E:TypeId} {hs':List bd} [Ty P t true n] (hx:Is sl x (.pointer (some ⟨b,o,none⟩))) (ht:Take hs (SL.bu b (.cells cs.toArray E fz)) hs') (hv:eL cs o n=vs) (hl:vs.length=n) :
  du P c sl hs ⟨dst,.load t x,ty,pos,af,g⟩ (.agg vs.toArray):=jC hx (fo.bu ht hv) hl
theorem bA {r:Option Nat} {D:List Nat} {ops:Array Oper} {Q:Exit->Act->World->Prop} {d:Nat} {rest:List Oper} {hs' hs2:List bd} {t e:TypeId} {size bytes:Nat} {z:Value} {n b o m cp:Nat} {xs news cs:List Value} {E:TypeId} [iI P t (.slice e)] [Ty P e agg size] [mA P e z] [uW P e bytes]
  (hx:Is sl x v) (hy:Is sl y (.slice (some ⟨b,o,none⟩) m cp)) (ht:Take hs (row e size v n xs) hs') (ht2:Take hs (SL.bu b (.cells cs.toArray E fz)) hs2) (hv:eL cs o (m*size)=news) (hl:news.length=m*size) (h1:∀ u∈news,u.oneCell'=true) (hz:z.cells.size=size) (hsz:Nat.blt 0 size=true) (hb0:Nat.blt 0 bytes=true)
  (hb:(n+m)*bytes<=140737488355328) (hd:Nat.blt d c.nt=true)
  (k:∀ v',Tr c D ((d,v')::sl) (row e size v' (n+m) (xs++news)::hs') (WL P r ops Q rest)) :
  Tr c D sl hs (WL P r ops Q (⟨some d,.call ⟨.builtin .append,#[x,y],#[t,t]⟩,ty,pos,af,none⟩::rest)):=
 yY hx hy ht (fo.bu ht2 hv) hl h1 hz hsz hb0 hb hd k
theorem ig {fn:Func} {t:Tmp} {T:TypeId} {b o n:Nat} {cs vs:List Value} {E:TypeId} {hs':List bd} (h:fn.results=#[.cell t T]) (hT:Ty P T true n) (hp:dj sl t=some (.pointer (some ⟨b,o,none⟩))) (ht:Take hs (SL.bu b (.cells cs.toArray E fz)) hs') (hv:eL cs o n=vs) (hl:vs.length=n):Ends P fn c sl hs (.agg vs.toArray):=
 P9 h hp (fo.bu ht hv) hl
theorem Sp {r:Option Nat} {D:List Nat} {ops:Array Oper} {Q:Exit->Act->World->Prop} {d:Option Tmp} {op:Op} {rest:List Oper} {j gs:Nat} {want:Bool} (hj:((ops[j]?).bind (·.dst))=some gs) (hq:dj sl gs=some (.bool want))
  (k:Tr c D sl hs (WL P r ops Q (⟨d,op,ty,pos,af,none⟩::rest))):Tr c D sl hs (WL P r ops Q (⟨d,op,ty,pos,af,some (j,want)⟩::rest)):=fun a w bb=>by
 have h:=k a w bb;unfold WL at h ⊢;rw [if_pos (by simp [Region.wanted])] at h;rw [lR (o:=⟨d,op,ty,pos,af,some (j,want)⟩) (c0:=true) I hj bb.dw (by rw [hq];rfl),if_pos (by simp)];exact h
theorem Rd.sliced {len cap sz:Nat} {xs:List (List Value)} (h:Rd w (.slice a len cap) sz xs) {l m:Nat} (hl:l<=m) (hm:m<=len):Rd w (Go.sliced a l m cap sz) sz ((xs.take m).drop l):=by
 obtain ⟨a',iv,b,o,e,h1,h2,h3,h4⟩:=h;cases e;have e:((xs.take m).drop l).length=m-l:=by simp;omega
 by_cases hc:cap=l
 ·refine ⟨a,cap-l,b,o,?_,by omega,by omega,fun hn=>?_,fun i r hr=>?_⟩
  ·simp [Go.sliced,hc,e]
  ·exact absurd (Z5 (by omega)) hn
  ·have:=(Zl.1 hr).1;omega
 ·refine ⟨a.map (·.add (l*sz)),cap-l,b,o+l*sz,?_,by omega,by omega,fun hn=>?_,fun i r hr=>?_⟩
  ·simp [Go.sliced,hc,e]
  ·have hx:xs≠[]:=by intro e;subst e;simp at hn
   rw [h3 hx];by_cases e0:l*sz=0
   ·simp [Addr.add,e0]
   ·simp [Addr.add,e0]
  ·rw [Zbl,ZN] at hr;split at hr
   ·obtain ⟨q1,q2⟩:=h4 _ _ hr;refine ⟨q1,fun j u hu=>?_⟩;have:=q2 j u hu;rw [show o+l*sz+i*sz+j=o+(l+i)*sz+j by rw [Nat.add_mul];omega];exact this
   ·simp at hr
end
end Go.SL
namespace Go.Proofs
open Go Go.SL
open Tryz renaming prog->T_
instance:UQ T_:={}
instance:Ty T_ 3 false 1:={}
instance:iI T_ 3 (.int .i64):={}
instance:mA T_ 3 (.q 0):={}
instance:uW T_ 3 8:={}
instance:Ty T_ 4 false 1:={}
instance:iI T_ 4 (.bool):={}
instance:mA T_ 4 (.bool false):={}
instance:uW T_ 4 1:={}
instance:Ty T_ 9 false 1:={}
instance:iI T_ 9 (.string):={}
instance:mA T_ 9 (.string ⟨#[]⟩):={}
instance:uW T_ 9 16:={}
instance:Ty T_ 22 false 1:={}
instance:iI T_ 22 (.slice 118):={}
instance:Ty T_ 23 false 1:={}
instance:iI T_ 23 (.slice 88):={}
instance:Ty T_ 24 false 1:={}
instance:iI T_ 24 (.slice 122):={}
instance:Ty T_ 25 false 1:={}
instance:iI T_ 25 (.slice 180):={}
instance:Ty T_ 27 true 6:={}
instance:mA T_ 27 (.agg #[.q 0,.q 0,.z,.z,.z,.z]):={}
instance:DU T_ 27 [(0,1),(1,1),(2,1),(3,1),(4,1),(5,1)] [.q 0,.q 0,.z,.z,.z,.z]:={}
instance:eB T_ 27 0 0:={}
instance:eB T_ 27 1 1:={}
instance:eB T_ 27 2 2:={}
instance:eB T_ 27 3 3:={}
instance:eB T_ 27 4 4:={}
instance:eB T_ 27 5 5:={}
instance:Ty T_ 29 true 3:={}
instance:eB T_ 29 0 0:={}
instance:eB T_ 29 1 1:={}
instance:eB T_ 29 2 2:={}
instance:Ty T_ 32 false 1:={}
instance:iI T_ 32 (.slice 9):={}
instance:mA T_ 32 (.z):={}
instance:uW T_ 32 24:={}
instance:Ty T_ 33 false 1:={}
instance:mA T_ 33 (.q 0):={}
instance:Ty T_ 36 false 1:={}
instance:iI T_ 36 (.slice 186):={}
instance:Ty T_ 37 false 1:={}
instance:iI T_ 37 (.slice 90):={}
instance:Ty T_ 38 false 1:={}
instance:iI T_ 38 (.slice 187):={}
instance:Ty T_ 39 false 1:={}
instance:iI T_ 39 (.slice 188):={}
instance:Ty T_ 41 true 6:={}
instance:mA T_ 41 (.agg #[.q 0,.q 0,.z,.z,.z,.z]):={}
instance:DU T_ 41 [(0,1),(1,1),(2,1),(3,1),(4,1),(5,1)] [.q 0,.q 0,.z,.z,.z,.z]:={}
instance:eB T_ 41 0 0:={}
instance:eB T_ 41 1 1:={}
instance:eB T_ 41 2 2:={}
instance:eB T_ 41 3 3:={}
instance:eB T_ 41 4 4:={}
instance:eB T_ 41 5 5:={}
instance:Ty T_ 49 false 1:={}
instance:iI T_ 49 (.slice 3):={}
instance:mA T_ 49 (.z):={}
instance:Ty T_ 66 false 1:={}
instance:iI T_ 66 (.slice 69):={}
instance:Ty T_ 69 true 2:={}
instance:mA T_ 69 (.agg #[.string ⟨#[]⟩,.z]):={}
instance:uW T_ 69 40:={}
instance:DU T_ 69 [(0,1),(1,1)] [.string ⟨#[]⟩,.z]:={}
instance:eB T_ 69 0 0:={}
instance:eB T_ 69 1 1:={}
instance:Ty T_ 72 false 1:={}
instance:iI T_ 72 (.slice 78):={}
instance:Ty T_ 78 true 2:={}
instance:mA T_ 78 (.agg #[.string ⟨#[]⟩,.z]):={}
instance:uW T_ 78 40:={}
instance:DU T_ 78 [(0,1),(1,1)] [.string ⟨#[]⟩,.z]:={}
instance:eB T_ 78 0 0:={}
instance:eB T_ 78 1 1:={}
instance:Ty T_ 88 true 3:={}
instance:mA T_ 88 (.agg #[.string ⟨#[]⟩,.q 0,.bool false]):={}
instance:uW T_ 88 32:={}
instance:eB T_ 88 0 0:={}
instance:eB T_ 88 1 1:={}
instance:eB T_ 88 2 2:={}
instance:Ty T_ 90 true 3:={}
instance:mA T_ 90 (.agg #[.string ⟨#[]⟩,.q 0,.bool false]):={}
instance:uW T_ 90 32:={}
instance:DU T_ 90 [(0,1),(1,1),(2,1)] [.string ⟨#[]⟩,.q 0,.bool false]:={}
instance:eB T_ 90 0 0:={}
instance:eB T_ 90 1 1:={}
instance:eB T_ 90 2 2:={}
instance:iI T_ 93 (.slice 105):={}
instance:iI T_ 96 (.slice 182):={}
instance:Ty T_ 105 true 2:={}
instance:mA T_ 105 (.agg #[.q 0,.z]):={}
instance:uW T_ 105 32:={}
instance:eB T_ 105 0 0:={}
instance:eB T_ 105 1 1:={}
instance:Ty T_ 118 true 2:={}
instance:mA T_ 118 (.agg #[.string ⟨#[]⟩,.q 0]):={}
instance:uW T_ 118 24:={}
instance:eB T_ 118 0 0:={}
instance:eB T_ 118 1 1:={}
instance:Ty T_ 122 true 3:={}
instance:mA T_ 122 (.agg #[.string ⟨#[]⟩,.q 0,.q 0]):={}
instance:uW T_ 122 32:={}
instance:eB T_ 122 0 0:={}
instance:eB T_ 122 1 1:={}
instance:eB T_ 122 2 2:={}
instance:eB T_ 125 0 0:={}
instance:eB T_ 125 1 1:={}
instance:eB T_ 125 2 2:={}
instance:eB T_ 125 3 3:={}
instance:iI T_ 156 (.slice 32):={}
instance:Ty T_ 180 true 3:={}
instance:mA T_ 180 (.agg #[.q 0,.string ⟨#[]⟩,.string ⟨#[]⟩]):={}
instance:uW T_ 180 40:={}
instance:DU T_ 180 [(0,1),(1,1),(2,1)] [.q 0,.string ⟨#[]⟩,.string ⟨#[]⟩]:={}
instance:eB T_ 180 0 0:={}
instance:eB T_ 180 1 1:={}
instance:eB T_ 180 2 2:={}
instance:Ty T_ 182 true 2:={}
instance:mA T_ 182 (.agg #[.q 0,.z]):={}
instance:uW T_ 182 32:={}
instance:DU T_ 182 [(0,1),(1,1)] [.q 0,.z]:={}
instance:eB T_ 182 0 0:={}
instance:eB T_ 182 1 1:={}
instance:Ty T_ 186 true 2:={}
instance:mA T_ 186 (.agg #[.string ⟨#[]⟩,.q 0]):={}
instance:uW T_ 186 24:={}
instance:DU T_ 186 [(0,1),(1,1)] [.string ⟨#[]⟩,.q 0]:={}
instance:eB T_ 186 0 0:={}
instance:eB T_ 186 1 1:={}
instance:Ty T_ 187 true 3:={}
instance:mA T_ 187 (.agg #[.string ⟨#[]⟩,.q 0,.q 0]):={}
instance:uW T_ 187 32:={}
instance:DU T_ 187 [(0,1),(1,1),(2,1)] [.string ⟨#[]⟩,.q 0,.q 0]:={}
instance:eB T_ 187 0 0:={}
instance:eB T_ 187 1 1:={}
instance:eB T_ 187 2 2:={}
instance:Ty T_ 188 true 3:={}
instance:mA T_ 188 (.agg #[.q 0,.string ⟨#[]⟩,.string ⟨#[]⟩]):={}
instance:uW T_ 188 40:={}
instance:DU T_ 188 [(0,1),(1,1),(2,1)] [.q 0,.string ⟨#[]⟩,.string ⟨#[]⟩]:={}
instance:eB T_ 188 0 0:={}
instance:eB T_ 188 1 1:={}
instance:eB T_ 188 2 2:={}
instance:Ty T_ 199 false 1:={}
instance:Ty T_ 220 false 1:={}
instance:mA T_ 220 (.nilFunc):={}
instance:iI T_ 232 (.slice 4):={}
instance:Ty T_ 244 true 2:={}
instance:mA T_ 244 (.agg #[.z,.q 0]):={}
instance:uW T_ 244 32:={}
instance:DU T_ 244 [(0,1),(1,1)] [.z,.q 0]:={}
instance:eB T_ 244 0 0:={}
instance:eB T_ 244 1 1:={}
instance:Ty T_ 254 false 1:={}
instance:iI T_ 254 (.map 9 257):={}
instance:mA T_ 254 (.map none):={}
instance:Ty T_ 257 true 3:={}
instance:mA T_ 257 (.agg #[.q 0,.q 0,.q 0]):={}
instance:DU T_ 257 [(0,1),(1,1),(2,1)] [.q 0,.q 0,.q 0]:={}
instance:eB T_ 257 0 0:={}
instance:FTy T_ 257 0 0 3:={}
instance:eB T_ 257 1 1:={}
instance:eB T_ 257 2 2:={}
instance:Ty T_ 264 true 2:={}
instance:DU T_ 264 [(0,1),(1,1)] [.string ⟨#[]⟩,.nilFunc]:={}
instance:eB T_ 264 0 0:={}
instance:Ty T_ 265 true 10:={}
instance:iI T_ 265 (.array 5 264):={}
instance:mA T_ 265 (.agg #[.string ⟨#[]⟩,.nilFunc,.string ⟨#[]⟩,.nilFunc,.string ⟨#[]⟩,.nilFunc,.string ⟨#[]⟩,.nilFunc,.string ⟨#[]⟩,.nilFunc]):={}
instance:DU T_ 265 [(0,2),(2,2),(4,2),(6,2),(8,2)] [.string ⟨#[]⟩,.nilFunc,.string ⟨#[]⟩,.nilFunc,.string ⟨#[]⟩,.nilFunc,.string ⟨#[]⟩,.nilFunc,.string ⟨#[]⟩,.nilFunc]:={}
instance:iI T_ 287 (.slice 33):={}
instance:Ty T_ 299 true 2:={}
instance:iI T_ 299 (.array 2 3):={}
instance:mA T_ 299 (.agg #[.q 0,.q 0]):={}
instance:DU T_ 299 [(0,1),(1,1)] [.q 0,.q 0]:={}
instance:iI T_ 318 (.int .u64):={}
instance:Ty T_ 329 false 1:={}
instance:iI T_ 329 (.slice 244):={}
instance:mA T_ 329 (.z):={}
instance:BV T_ 88 [9,3,4]:={}
instance:BV T_ 118 [9,3]:={}
instance:BV T_ 122 [9,3,3]:={}
instance:BV T_ 180 [3,9,9]:={}
instance:BV T_ 188 [3,9,9]:={}
instance:BV T_ 299 [3,3]:={}
instance:bN T_ 17:={}
instance:bN T_ 18:={}
instance:bN T_ 19:={}
instance:bN T_ 20:={}
instance:bN T_ 21:={}
instance:bN T_ 22:={}
instance:bN T_ 23:={}
instance:bN T_ 24:={}
instance:bN T_ 25:={}
instance:bN T_ 26:={}
instance:bN T_ 27:={}
instance:bN T_ 28:={}
instance:bN T_ 29:={}
instance:bN T_ 30:={}
instance:bN T_ 31:={}
instance:bN T_ 32:={}
instance:bN T_ 33:={}
instance:bN T_ 34:={}
instance:bN T_ 35:={}
instance:bN T_ 36:={}
instance:bN T_ 37:={}
instance:bN T_ 38:={}
instance:bN T_ 39:={}
instance:bN T_ 40:={}
instance:bN T_ 41:={}
instance:bN T_ 42:={}
instance:bN T_ 43:={}
instance:bN T_ 44:={}
instance:bN T_ 45:={}
instance:bN T_ 46:={}
instance:bN T_ 47:={}
instance:bN T_ 48:={}
instance:bN T_ 49:={}
instance:bN T_ 50:={}
instance:bN T_ 51:={}
instance:bN T_ 52:={}
instance:bN T_ 53:={}
instance:bN T_ 54:={}
instance:bN T_ 55:={}
instance:bN T_ 56:={}
instance:bN T_ 57:={}
instance:bN T_ 58:={}
instance:bN T_ 59:={}
instance:bN T_ 60:={}
instance:bN T_ 61:={}
instance:bN T_ 62:={}
instance:bN T_ 63:={}
instance:bN T_ 64:={}
instance:bN T_ 65:={}
instance:bN T_ 66:={}
instance:bN T_ 67:={}
instance:bN T_ 68:={}
instance:bN T_ 69:={}
instance:bN T_ 70:={}
instance:bN T_ 71:={}
instance:bN T_ 72:={}
instance:bN T_ 73:={}
instance:bN T_ 74:={}
instance:bN T_ 75:={}
instance:bN T_ 76:={}
instance:bN T_ 77:={}
instance:bN T_ 78:={}
instance:bN T_ 79:={}
instance:bN T_ 80:={}
instance:bN T_ 81:={}
instance:bN T_ 82:={}
instance:bN T_ 83:={}
instance:bN T_ 84:={}
instance:bN T_ 85:={}
instance:bN T_ 105:={}
instance:bN T_ 106:={}
instance:bN T_ 107:={}
instance:bN T_ 108:={}
instance:bN T_ 109:={}
instance:bN T_ 110:={}
instance:bN T_ 111:={}
instance:bN T_ 112:={}
instance:bN T_ 113:={}
instance:bN T_ 114:={}
instance:bN T_ 115:={}
instance:bN T_ 116:={}
instance:bN T_ 117:={}
instance:bN T_ 118:={}
instance:bN T_ 119:={}
instance:bN T_ 120:={}
instance:bN T_ 121:={}
instance:bN T_ 122:={}
instance:bN T_ 123:={}
instance:bN T_ 124:={}
instance:bN T_ 125:={}
instance:bN T_ 126:={}
instance:bN T_ 127:={}
instance:bN T_ 128:={}
instance:bN T_ 129:={}
instance:bN T_ 130:={}
instance:bN T_ 131:={}
instance:bN T_ 132:={}
instance:bN T_ 133:={}
instance:bN T_ 134:={}
instance:bN T_ 135:={}
instance:bN T_ 136:={}
instance:bN T_ 137:={}
instance:bN T_ 138:={}
instance:bN T_ 139:={}
instance:bN T_ 140:={}
instance:bN T_ 141:={}
instance:bN T_ 142:={}
instance:bN T_ 143:={}
instance:bN T_ 144:={}
instance:bN T_ 145:={}
instance:bN T_ 146:={}
instance:bN T_ 147:={}
instance:bN T_ 148:={}
instance:bN T_ 149:={}
instance:bN T_ 150:={}
instance:bN T_ 151:={}
instance:bN T_ 152:={}
instance:bN T_ 153:={}
instance:bN T_ 154:={}
instance:bN T_ 155:={}
instance:bN T_ 156:={}
instance:bN T_ 157:={}
instance:bN T_ 158:={}
instance:bN T_ 159:={}
instance:bN T_ 160:={}
instance:bN T_ 161:={}
instance:bN T_ 162:={}
instance:bN T_ 163:={}
instance:bN T_ 164:={}
instance:bN T_ 165:={}
instance:bN T_ 166:={}
instance:bN T_ 167:={}
instance:bN T_ 168:={}
instance:bN T_ 169:={}
instance:bN T_ 170:={}
instance:bN T_ 171:={}
instance:bN T_ 172:={}
instance:bN T_ 173:={}
instance:bN T_ 174:={}
instance:bN T_ 175:={}
instance:bN T_ 176:={}
instance:bN T_ 177:={}
instance:bN T_ 178:={}
instance:bN T_ 179:={}
instance:bN T_ 180:={}
instance:bN T_ 181:={}
instance:bN T_ 182:={}
instance:bN T_ 183:={}
instance:bN T_ 184:={}
instance:bN T_ 185:={}
instance:bN T_ 186:={}
instance:bN T_ 187:={}
instance:bN T_ 188:={}
instance:bN T_ 189:={}
instance:bN T_ 190:={}
instance:bN T_ 191:={}
instance:bN T_ 192:={}
instance:bN T_ 193:={}
instance:bN T_ 221:={}
instance:bN T_ 222:={}
instance:bN T_ 223:={}
instance:bN T_ 224:={}
instance:bN T_ 225:={}
instance:bN T_ 226:={}
instance:bN T_ 227:={}
instance:bN T_ 228:={}
instance:bN T_ 229:={}
instance:bN T_ 230:={}
instance:bN T_ 231:={}
instance:bN T_ 232:={}
instance:bN T_ 233:={}
instance:bN T_ 234:={}
instance:bN T_ 235:={}
instance:bN T_ 236:={}
instance:bN T_ 237:={}
instance:bN T_ 238:={}
instance:bN T_ 239:={}
instance:bN T_ 240:={}
instance:bN T_ 241:={}
instance:bN T_ 242:={}
instance:bN T_ 243:={}
instance:bN T_ 246:={}
instance:bN T_ 247:={}
instance:bN T_ 248:={}
instance:bN T_ 249:={}
instance:bN T_ 250:={}
instance:bN T_ 251:={}
instance:bN T_ 252:={}
instance:bN T_ 253:={}
instance:bN T_ 254:={}
instance:bN T_ 255:={}
instance:bN T_ 256:={}
instance:bN T_ 257:={}
instance:bN T_ 258:={}
instance:bN T_ 259:={}
instance:bN T_ 260:={}
instance:bN T_ 262:={}
instance:bN T_ 263:={}
instance:bN T_ 264:={}
instance:bN T_ 265:={}
instance:bN T_ 266:={}
instance:bN T_ 267:={}
instance:bN T_ 268:={}
instance:bN T_ 269:={}
instance:bN T_ 270:={}
instance:bN T_ 278:={}
instance:bN T_ 279:={}
instance:bN T_ 297:={}
instance:bN T_ 298:={}
instance:bN T_ 299:={}
instance:bN T_ 300:={}
instance:bN T_ 301:={}
instance:bN T_ 302:={}
instance:bN T_ 314:={}
instance:bN T_ 315:={}
instance:bN T_ 316:={}
instance:bN T_ 317:={}
instance:bN T_ 319:={}
instance:bN T_ 323:={}
instance:bN T_ 324:={}
instance:bN T_ 342:={}
end Go.Proofs
namespace Go.SL
open Go
theorem aI.over {md fp:List Nat} {a b c:World} (h:aI md a b) (hf:∀ x∈fp,x∈md\/a.heap.size<=x) (k:aI fp b c):aI md a c:=
 ⟨k.os.trans h.os,k.tape.trans h.tape,k.output.trans h.output,ZP h.dr k.dr,ZP h.size k.size,fun i hi hm=>by
  rw [<- h.block i hi hm];exact k.block i (ZaK hi h.size) (fun hx=>by
   rcases hf i hx with h1 | h1
   ·exact hm h1
   ·omega)⟩
def Out (md:List Nat) (v:Value) (xs:List (List Value)):Prop:=xs≠[]->∀ b,v.ownBlock=some b->b ∉ md
theorem Out.nil (v:Value) (xs:List (List Value)):Out [] v xs:=fun _ _ _ h=>by cases h
variable {sz:Nat} {v:Value} {xs:List (List Value)}
theorem Rd.kb {md:List Nat} {w w':World} (h:Rd w v sz xs) (hn:Out md v xs) (hk:aI md w w'):Rd w' v sz xs:=by
 obtain ⟨a,cap,b,o,rfl,h2,HT,h3,h4⟩:=h;refine ⟨a,cap,b,o,I,h2,HT,h3,fun i r hr=>⟨(h4 i r hr).1,fun j u hu=>?_⟩⟩;have:=(h4 i r hr).2 j u hu;have hb:=World.block_lt_of_cell? w _ this;have hne:xs≠[]:=by rintro rfl;simp at hr
 rw [<- this];simp only [World.cell?];rw [hk.block b hb (hn hne b (by rw [h3 hne];rfl))]
theorem Rd.out {md fp:List Nat} {w0:World} (h:Rd w0 v sz xs) (hsz:0<sz) (hn:Out md v xs) (hF:∀ b∈fp,b∈md\/w0.heap.size<=b):Out fp v xs:=fun hne b hb PT=>by
 obtain ⟨a,cap,b',o,rfl,h2,HT,h3,h4⟩:=h;have ha:=h3 hne;subst ha;have:b'=b:=by simpa [Value.ownBlock] using hb
 subst this;obtain ⟨r,rs,rfl⟩:=List.exists_cons_of_ne_nil hne;obtain ⟨hl,hc⟩:=h4 0 r rfl;obtain ⟨u,us,rfl⟩:=List.exists_cons_of_ne_nil (l:=r) (by rintro rfl;simp at hl;omega);have aL:=World.block_lt_of_cell? w0 _ (hc 0 u I);rcases hF b' PT with h | h
 ·exact hn hne b' hb h
 ·exact absurd aL (by simp;omega)
theorem fo.DK {c:Cx} {hs:List bd} {b o:Nat} {vs:List Value} (h:∀ (j:Nat) (u:Value),vs[j]? = some u->c.w0.cell? ⟨b,o+j,none⟩=some u) (HM:b ∉ c.md):fo c hs b o vs:=
 fo.wH fun j v hv=>At.DK (h j v hv) HM
def BO (P:Program) (l:Nat) (args:List Value) (w0:World) (md:List Nat) (pre:bd) (post:Bool->bd):Prop:=
 ∀ W fp, aI md w0 W -> (∀ b ∈ fp, b ∈ md \/ w0.heap.size <= b) -> fp.Nodup -> pre.sat (hp W) fp -> ∃ f tmps Fl body, (Instr.yield l args.toArray).run P W = .ok (.round l f tmps Fl body) W /\
  RoundIn (FR none) 0 P l f tmps Fl body W (qg fp W post)
def Iter (P:Program) (f:FuncId) (first cap:List Value) (own:List bd) (items:List (List Value)) (w0:World) (md:List Nat) (w:World):Prop:=
 ∀ (l : Nat) (fp : List Nat) (J : Nat -> bd) (E : bd), aI md w0 w -> (∀ b ∈ fp, b ∈ md \/ w0.heap.size <= b) -> fp.Nodup -> cy (hp w) (J 0 :: own) fp ->
  (∀ k vs,items[k]? = some vs->BO P l vs w0 md (J k) (fun b=>bif b then J (k+1) else E)) ->
  a8 P f (first++[.func (.yield l) #[] #[]]++cap) w fp (fun _:Bool=>True) (fun _=>.tuple #[]) (fun b=>(bif b then J items.length else E)::own)
section
variable {P:Program} {r:Option Nat} {c:Cx} {D:List Nat} {sl:aN} {hs hs':List bd} {Q:Exit->Act->World->Prop} {ι κ:Type}
variable {ops:Array Oper} {d:Nat} {ty:TypeId} {pos:String} {af:Array Edge} {rest:List Oper}
variable {A:ι->List bd} {B:κ->List bd} {W:World} {fp:List Nat} {k l:Nat} {md:List Nat} {nt:Nat} {p:Option Code} {pd:κ->Code} {post:Bool->bd} {rc:Loop} {s:LoopState} {vs:List Value} {w0:World} {Ψ:κ->Prop}
theorem yS {x:Operand} {xs:List Operand} {ts:Array TypeId} {pre:bd} (hB:aI md w0 c.w0) (hF:∀ b∈c.md,b∈md\/w0.heap.size<=b) (hy:BO P l vs w0 md pre post)
  (hx:Is sl x (.func (.yield l) #[] #[])) (ha:Il sl xs vs) (hd:Nat.blt d c.nt=true) (ht:Take hs pre hs')
  (k:∀ b,Tr c D ((d,.bool b)::sl) (post b::hs') (WL P r ops Q rest)):Tr c D sl hs (WL P r ops Q (⟨some d,.call ⟨.value x,xs.toArray,ts⟩,ty,pos,af,none⟩::rest)):=fun a w bb=>by
 have hm:=bb.mem.take (ht.append _);obtain ⟨kk,fp,hn,⟨f1,f2,rfl,h1,h2⟩,hb⟩:=hm;obtain ⟨f,tmps,Fl,body,iE,TM⟩:=hy w f1 (hB.over hF kk) (fun b dQ=>by
  rcases hb b (ZH _ dQ) with h | h
  ·exact .inr (ZP hB.size h)
  ·exact hF b h) (ZI.1 hn).1 h1
 refine mJ I ⟨eh _ _ _ _ _,?_⟩;rw [Oper.semAt_eq _ _ _ (by simp)];have:(execOp a.eval ⟨some d,.call ⟨.value x,xs.toArray,ts⟩,ty,pos,af,none⟩).run P w=.ok (.round l f tmps Fl body) w:=by
  simp only [execOp,resolve,hx a bb.dw,Deferred.ofValue,Sem.run_bind,Sem.run_pure,Result.andThen_ok,invoke,List.map_toArray,ha.map bb.dw];simpa using iE
 rw [this];refine ⟨by simp [FR,Fence.wide],(Hj TM).mono fun e w' ⟨b,he,hk,mE,uy,hs1,zC⟩=>?_⟩;subst he;refine k b _ _ ((bb.put (by simpa [Z8] using hd) (.bool b)).heap ?_);obtain ⟨n1,n2,n12⟩:=ZI.1 hn;have aL:∀ b∈f2,b<w.heap.size:=fun b dQ=>let ⟨o,ho⟩:=h2.own b dQ;lf ho
 refine ⟨?_,mE++f2,?_,⟨mE,f2,I,hs1,h2.loc fun b dQ=>?_⟩,?_⟩
 ·refine ⟨hk.os.trans kk.os,hk.tape.trans kk.tape,hk.output.trans kk.output,ZP kk.dr hk.dr,ZP kk.size hk.size,fun b dQ hm=>?_⟩;rw [<- kk.block b dQ hm];refine hk.block b (ZaK dQ kk.size) (fun hf=>?_);rcases hb b (ZH _ hf) with h | h
  ·omega
  ·exact hm h
 ·refine ZI.2 ⟨uy,n2,fun x hx y hy e=>?_⟩;subst e;rcases zC x hx with h | h
  ·exact n12 x h x hy I
  ·have:=aL x hy;omega
 ·exact hk.block b (aL b dQ) (fun hf=>n12 b hf b dQ I)
 ·intro b dQ;rcases Zz.1 dQ with h | h
  ·rcases zC b h with h | h
   ·exact hb b (ZH _ h)
   ·exact .inl (ZP kk.size h)
  ·exact hb b (ZT _ h)
theorem D1 {Φ:ι->Prop} {sl0:aN} (uv:bZ sl0 ⟨rc.tmps,[]⟩) (hn:rc.tmps.size=nt) (hlen:vs.length=rc.params.size) (hps:∀ t∈rc.params.toList,t<nt)
  (h:∀ x W fp,aI md w0 W->(∀ b∈fp,b∈md\/w0.heap.size<=b)->Φ x->Tr ⟨W,fp,nt⟩ [] (nj (rc.params.toList.zip vs) sl0) (bu l (gP rc .ready none)::A x) (WP P (some l) rc.assign (Exit.then (Fu P l rc.body (qg fp W post)) (fun _ _ _=>False)))) :
  BO P l vs w0 md (P7 Φ fun x=>bu l (gP rc .ready none)::A x) post:=by
 rintro W fp hB hF iB ⟨x,hx,gi⟩;have iP:Mem ⟨W,fp,nt⟩ (bu l (gP rc .ready none)::A x) W:=⟨.refl _ _,fp,iB,gi,fun b hb=>.inr hb⟩
 have hb:W.heap[l]? = some (gP rc .ready none):=iP.bu .here;have hy:=run_yield (P:=P) (w:=W) (l:=l) (r:={ rc with state:=.ready,pending:=none }) (args:=vs.toArray) hb (by simpa using hlen)
 refine ⟨_,_,_,_,hy,?_⟩;refine roundIn_of_wpIn trivial ?_;obtain ⟨g1,g2⟩:=zj (rc.params.toList.zip vs) sl0 rc.tmps uv hn (fun p hp=>hps p.1 (by
  obtain ⟨t,v⟩:=p;exact (List.of_mem_zip hp).1))
 have W5:((rc.params.zip vs.toArray).foldl (fun tmps (x:Nat×Value)=>tmps.setIfInBounds x.1 x.2) rc.tmps)=(rc.params.toList.zip vs).foldl (fun (t:Array Value) p=>t.setIfInBounds p.1 p.2) rc.tmps:=by
  rw [<- Array.foldl_toList];simp
 have:=h x W fp hB hF hx ⟨(rc.params.toList.zip vs).foldl (fun (t:Array Value) p=>t.setIfInBounds p.1 p.2) rc.tmps,[]⟩ W ⟨by simpa [nF] using iP,g1,g2,I⟩
 rw [<- W5] at this;exact this
def qL (l:Nat) (rc:Loop) (Φ:Nat->ι->Prop) (A:ι->List bd) (Ψ:κ->Prop) (B:κ->List bd) (pd:κ->Code) (k:Nat) (b:Bool):bd:=
 bif b then P7 (Φ k) (fun x=>bu l (gP rc .ready none)::A x) else P7 Ψ (fun y=>bu l (gP rc .done (some (pd y)))::B y)
theorem jO {g:Operand} {ps:List Tmp} {Fl body:Code} {f:FuncId} {first cap:List Value} [bN P f] (hg:Is sl g (.func (.func f) first.toArray cap.toArray))
  (own:List bd) (items:List (List Value)) (hit:∀ w,Mem c hs w->Iter P f first cap own items c.w0 c.md w)
  (Φ:Nat->ι->Prop) (A:ι->List bd) (Ψ:κ->Prop) (B:κ->List bd) (pd:κ->Code) (x0:ι) {rst:List bd} (h0:Φ 0 x0) (ht:bj hs (A x0++own) rst)
  (hlen:∀ vs∈items,vs.length=ps.length) (hps:∀ t∈ps,t<c.nt)
  (round:∀ l rc W fp k x vs,rc.tmps.size=c.nt->items[k]? = some vs->Φ k x->aI c.md c.w0 W->(∀ b∈fp,b∈c.md\/c.w0.heap.size<=b) ->
   Tr ⟨W,fp,c.nt⟩ [] (nj (ps.zip vs) sl) (bu l (gP rc .ready none)::A x) (WP P (some l) Fl (Exit.then (Fu P l body (qg fp W (qL l rc Φ A Ψ B pd (k+1)))) (fun _ _ _=>False))))
  (kn:∀ x D,Φ items.length x->Tr c D sl (A x++own++rst) (Q .normal))
  (kj:∀ y D,Ψ y->Tr c D sl (B y++own++rst) (WP P none (pd y) Q)) :
  Tr c D sl hs (WP P none (.rangeFunc g ps.toArray Fl body) Q):=by
 refine Aj (ι:=ι ⊕ κ) hg (As:=fun l rc=>bu l (gP rc .ready none)::(A x0++own)) (rest:=rst)
  (Φ:=fun l rc x=>match x with | .inl x=>Φ items.length x | .inr y=>Ψ y) (own:=fun l rc x=>match x with | .inl x=>A x++own | .inr y=>B y++own)
  (st:=fun x=>match x with | .inl _=>.ready | .inr _=>.done) (pd:=fun x=>match x with | .inl _=>none | .inr y=>some (pd y)) ?_ ?_ ?_ ?_ ?_
 ·exact fun l rc=>bj.h1 ht
 ·rintro (x | y) <;> simp
 ·intro l rc TS ha YU uv hsz w fp hm hn hs1 BX;have abC:∀ b∈fp,b∈c.md\/c.w0.heap.size<=b:=fun b hb=>(BX b hb).symm
  have hs2:cy (hp w) (P7 (Φ 0) (fun x=>bu l (gP rc .ready none)::A x)::own) fp:=by
   rw [<- Zb] at hs1;obtain ⟨f1,f2,rfl,h1,h2⟩:=cy.append_iff.1 hs1;exact ⟨f1,f2,I,⟨x0,h0,h1⟩,h2⟩
  refine (hit w hm.xu l fp (fun k=>P7 (Φ k) (fun x=>bu l (gP rc .ready none)::A x)) (P7 Ψ (fun y=>bu l (gP rc .done (some (pd y)))::B y)) hm.keeps abC hn hs2 ?_).mono ?_
  ·intro k vs hk;refine D1 (post:=qL l rc Φ A Ψ B pd (k+1)) uv hsz (by rw [TS];simpa using hlen vs (Z2 hk)) (by rw [TS];simpa using hps) ?_;intro x W XF hB hF hx;have:=round l rc W XF k x vs hsz hk hx hB hF;rw [ha,YU,TS];simpa using this
  ·rintro e w' ⟨b,he,_,hk,mE,uy,hs',zC⟩;obtain ⟨f1,f2,rfl,h1,h2⟩:=hs';cases b with
   | true =>
    obtain ⟨x,hx,h1⟩:=h1;exact ⟨.inl x,he,hx,hk,f1++f2,uy,by
     show cy _ (bu l (gP rc .ready none)::(A x++own)) _;rw [<- Zb];exact cy.append_iff.2 ⟨f1,f2,I,h1,h2⟩,zC⟩
   | false =>
    obtain ⟨y,hy,h1⟩:=h1;exact ⟨.inr y,he,hy,hk,f1++f2,uy,by
     show cy _ (bu l (gP rc .done (some (pd y)))::(B y++own)) _;rw [<- Zb];exact cy.append_iff.2 ⟨f1,f2,I,h1,h2⟩,zC⟩
 ·rintro l rc (x | y) b hx TT
  ·exact kn x (b::D) hx
  ·simp at TT
 ·rintro l rc (x | y) b j hx TT
  ·simp at TT
  ·simp only [Option.some.injEq] at TT;subst TT;exact kj y (b::D) hx
def zU (c:Cx) (Φ:ι->Prop) (sI:ι->aN) (hI:ι->List bd) (μ:ι->Nat) (i:ι):Act->World->Prop:=fun a w=>∃ D j,Φ j/\μ j<μ i/\St c D (sI j) (hI j) a w
def xO (c:Cx) (Φ:ι->Prop) (sI:ι->aN) (hI:ι->List bd):Act->World->Prop:=fun a w=>∃ D i,Φ i/\St c D (sI i) (hI i) a w
theorem FK {x:Code} (Φ:ι->Prop) (sI:ι->aN) (hI:ι->List bd) (μ:ι->Nat)
  (h0:Tr c D sl hs (xO c Φ sI hI))
  (round:∀ i,Φ i->∀ D,Tr c D (sI i) (hI i) (WP P r x (Exit.then (zU c Φ sI hI μ i) Q))) :
  Tr c D sl hs (WP P r (.loop x) Q):=fun a w bb=>by
 let fits:Act->World->Nat->Prop:=fun a w n=>∃ D i,Φ i/\μ i=n/\St c D (sI i) (hI i) a w
 have least:∀ a w,(∃ n,fits a w n)->∃ n,fits a w n/\∀ m,fits a w m->n<=m:=by
  intro a w ⟨n,hn⟩
  induction n using Nat.strongRecOn with
  | _ n ih =>
   by_cases h:∃ m,m<n/\fits a w m
   ·obtain ⟨m,hm,hf⟩:=h;exact ih m hm hf
   ·exact ⟨n,hn,fun m hm=>Zbj fun aL=>h ⟨m,aL,hm⟩⟩
 let M:Act->World->Nat:=fun a w=>Classical.epsilon fun n=>fits a w n/\∀ m,fits a w m->n<=m
 have hM:∀ a w,(∃ n,fits a w n)->fits a w (M a w)/\∀ m,fits a w m->M a w<=m:=fun a w h=>Classical.epsilon_spec (least a w h)
 refine wpIn_loop (fun a w=>∃ n,fits a w n) M ?_ ?_
 ·obtain ⟨D,i,hi,hs⟩:=h0 a w bb;exact ⟨μ i,D,i,hi,I,hs⟩
 ·intro a w hI;obtain ⟨⟨D,i,hi,hm,hs⟩,_⟩:=hM a w hI;refine wpIn_mono (round i hi D a w hs) fun e a' w' h=>?_;cases e with
  | normal =>
   obtain ⟨D',j,hj,aL,hs'⟩:=h;have hf:fits a' w' (μ j):=⟨D',j,hj,I,hs'⟩;exact ⟨⟨_,hf⟩,Nat.lt_of_le_of_lt ((hM a' w' ⟨_,hf⟩).2 _ hf) (by rw [<- hm];exact aL)⟩
  | _=>exact h
theorem Ce {Φ:ι->Prop} {sI:ι->aN} {hI:ι->List bd} {μ:ι->Nat} {i:ι} (j:ι) {rest:List bd} (hΦ:Φ j) (hμ:μ j<μ i) (hs1:mu sl (sI j)) (ht:bj hs (hI j) rest):Tr c D sl hs (zU c Φ sI hI μ i):=
 fun a w bb=>⟨D,j,hΦ,hμ,bb.weaken hs1 ht⟩
theorem yT {Φ:ι->Prop} {sI:ι->aN} {hI:ι->List bd} (j:ι) {rest:List bd} (hΦ:Φ j) (hs1:mu sl (sI j)) (ht:bj hs (hI j) rest):Tr c D sl hs (xO c Φ sI hI):=
 fun a w bb=>⟨D,j,hΦ,bb.weaken hs1 ht⟩
theorem mL {Φ:Nat->ι->Prop} (x:ι) {rst OA:List bd}
  (ht:Take hs (bu l (gP rc s p)) rst) (hx:Φ k x) (h2:bj rst (A x) OA):Tr ⟨W,fp,nt⟩ D sl hs (roundPost P l (qg fp W (qL l rc Φ A Ψ B pd k)) .normal):=
 G9 (c:=⟨W,fp,nt⟩) (post:=qL l rc Φ A Ψ B pd k) x I ht hx (bj.h1 h2)
theorem NY {Φ:Nat->ι->Prop} (y:κ) {rst OA:List bd}
  (TT:pd y=.ret) (ht:Take hs (bu l (gP rc s p)) rst) (hy:Ψ y) (h2:bj rst (B y) OA):Tr ⟨W,fp,nt⟩ D sl hs (roundPost P l (qg fp W (qL l rc Φ A Ψ B pd k)) .ret):=by
 refine G8 (c:=⟨W,fp,nt⟩) (post:=qL l rc Φ A Ψ B pd k) (Φ:=Ψ) (A:=fun y=>bu l (gP rc .done (some (pd y)))::B y) y (rest:=OA) I ht hy ?_;rw [TT];exact bj.h1 h2
end
end Go.SL
namespace Go.SL
open Go
theorem uR {α:Type} {zs:List α} {n i:Nat} (h0:0<zs.length) (hi:i<n*zs.length):(List.replicate n zs).flatten[i]? = zs[i % zs.length]?:=by
 induction n generalizing i with
 | zero=>omega
 | succ n ih =>
  rw [List.replicate_succ,Zak,List.getElem?_append];split
  ·rw [Nat.mod_eq_of_lt (by assumption)]
  ·rw [ih (by rw [Zac] at hi;omega),Nat.mod_eq_sub_mod (a:=i) (by omega)]
theorem wM {z:Array Value} {n:Nat} (h0:0<z.size):(madeCells z (n*z.size))=(List.replicate n z.toList).flatten.toArray:=by
 apply Array.ext';apply Zat;intro i;rw [ZaH];by_cases hi:i<n*z.size
 ·have:=uR (zs:=z.toList) (n:=n) (i:=i) (by simpa using h0) (by simpa using hi);rw [this];simp [madeCells,hi,Nat.mod_lt _ h0]
 ·rw [Zbw (by simp [size_madeCells];omega),Zal (by simp;omega)]
section
variable {P:Program} {c:Cx} {sl:aN} {hs:List bd} {dst:Option Tmp} {ty:TypeId} {pos:String} {af:Array Edge} {g:Option (Nat×Bool)}
theorem F0 {t e:TypeId} {agg:Bool} {size bytes l cp:Nat} {z:Value} {x y:Operand} {kx ky:IntKind} [hu:iI P t (.slice e)] [hT:Ty P e agg size] [hZ:mA P e z] [hB:uW P e bytes]
  (hx:Is sl x (.int kx l)) (hy:Is sl y (.int ky cp)) (hl:l<=cp) (hb:bytes*cp<=281474976710656) (hz:z.cells.size=size) (hsz:Nat.blt 0 size=true) (h63:cp<=9223372036854775807) :
  qR P c sl hs ⟨dst,.makeSlice t x y,ty,pos,af,g⟩ (fun b=>.w b l cp) (.cells (List.replicate cp z.cells.toList).flatten.toArray e (0,0)):=
 ⟨by simp,fun a w ha _=>by
  obtain ⟨de,i,kz,hi,_,gK⟩:=Ty.parts (P:=P) (t:=e) (agg:=agg) (n:=size);have hzero:i.zero=some z:=by have:=hZ.eq;rw [hi] at this;simpa using this
  have gG:i.bytes=bytes:=by have:=hB.eq;rw [hi] at this;simpa using this
  have hs0:0<size:=by simpa [Z8] using hsz
  have:=run_make (P:=P) w t e i z hu.eq hi hzero kx ky l cp (by omega) (by omega) (by rw [gG];omega) (by omega);have e1:=wM (z:=z.cells) (n:=cp) (by omega);rw [hz] at e1;simp only [execOp,hx a ha,hy a ha];refine (by rw [Sem.run_bind,this];simp only [ZE,gK,e1];rfl)⟩
end
end Go.SL
namespace Go.SL
open Go
def tY (n:Nat) (f:Nat->List Value):List Value:=((List.range n).map f).flatten
variable {f:Nat->List Value}
theorem iT {n sz:Nat} (hf:∀ i,i<n->(f i).length=sz):(tY n f).length=n*sz:=by
 unfold tY
 induction n with
 | zero=>simp
 | succ n ih =>
  rw [ZbA,Zy,Zag,Zg,ih (fun i h=>hf i (by omega))]
  simp [hf n (by omega),Zac]
theorem Aq {n sz i j:Nat} (hf:∀ i,i<n->(f i).length=sz) (hi:i<n) (hj:j<sz):(tY n f)[i*sz+j]? = (f i)[j]?:=by
 have hl:=hf i hi;obtain ⟨u,hu⟩:∃ u,(f i)[j]? = some u:=⟨(f i)[j]'(by omega),Zc (by omega)⟩;rw [hu];exact pT _ i (fun r hr=>by obtain ⟨k,hk,rfl⟩:=Zw.1 hr;exact hf k (ZU.1 hk)) (by simp [hi]) hu
theorem nC {n:Nat} {f g:Nat->List Value} (h:∀ i,i<n->f i=g i):tY n f=tY n g:=by
 unfold tY;congr 1;exact Zbt fun i hi=>h i (ZU.1 hi)
theorem hG:∀ (vs cs:List Value) (o k:Nat),o+vs.length<=cs.length->(setCells cs o vs)[k]? = if o<=k/\k<o+vs.length then vs[k-o]? else cs[k]?
 | [], cs, o, k, _ => by
  rw [if_neg (by simp only [Zaf];omega)];rfl
 | v :: vs, cs, o, k, h => by
  simp only [ZB] at h ⊢;rw [setCells,hG vs _ (o+1) k (by simp;omega)];by_cases h1:o+1<=k/\k<o+1+vs.length
  ·rw [if_pos h1,if_pos (by omega),show k-o=(k-(o+1))+1 by omega,Zba]
  ·rw [if_neg h1];by_cases h2:k=o
   ·subst h2;rw [if_pos (by omega),Nat.sub_self,ZaC,List.getElem?_set_self (by omega)]
   ·rw [if_neg (by omega),List.getElem?_set_ne (by omega)]
theorem Hg {n sz k:Nat} (h:k<n*sz):k / sz<n/\k % sz<sz/\k=k / sz*sz+k % sz:=by
 have hs:0<sz:=by
  rcases Nat.eq_zero_or_pos sz with h0 | h0
  ·subst h0;simp at h
  ·exact h0
 refine ⟨Nat.div_lt_of_lt_mul (by rwa [Nat.mul_comm]),Nat.mod_lt _ hs,?_⟩;have:=Nat.div_add_mod k sz;rw [Nat.mul_comm] at this;exact this.symm
theorem N7 {n sz i o:Nat} {vs:List Value} (hf:∀ i,i<n->(f i).length=sz) (hi:i<n) (ho:o+vs.length<=sz) :
  setCells (tY n f) (i*sz+o) vs=tY n (fun k=>if k=i then setCells (f i) o vs else f k):=by
 have hm:(i+1)*sz<=n*sz:=Z0 _ hi;rw [Zac] at hm;have hg:∀ k,k<n->((fun k=>if k=i then setCells (f i) o vs else f k) k).length=sz:=fun k hk=>by
  show (if k=i then _ else _:List Value).length=sz
  split
  ·rw [lp,hf i hi]
  ·exact hf k hk
 have WU:=iT hf;have ET:=iT hg;apply Zat;intro k;rw [hG _ _ _ _ (by rw [WU];omega)];by_cases hk:k<n*sz
 ·obtain ⟨h1,h2,h3⟩:=Hg hk;rw [h3,Aq hg h1 h2,Aq hf h1 h2];by_cases e:k / sz=i
  ·rw [e];simp only [if_true];rw [hG _ _ _ _ (by rw [hf i hi];omega)];by_cases h4:o<=k % sz/\k % sz<o+vs.length
   ·rw [if_pos h4,if_pos (by omega),show i*sz+k % sz-(i*sz+o)=k % sz-o by omega]
   ·rw [if_neg h4,if_neg (by omega)]
  ·rw [if_neg]
   ·simp only [if_neg e]
   ·intro ⟨h4,h5⟩;rcases Nat.lt_or_gt_of_ne e with e | e
    ·have:(k / sz+1)*sz<=i*sz:=Z0 _ e;rw [Zac] at this;omega
    ·have:(i+1)*sz<=k / sz*sz:=Z0 _ e;rw [Zac] at this;omega
 ·rw [if_neg (by omega),Zal (by omega),Zal (by omega)]
theorem Eg (n:Nat) (f:Nat->List Value):tY n f=((List.range n).map f).flatten:=rfl
theorem At.kB {c:Cx} {hs hs':List bd} {b o:Nat} {cs:List Value} {E:TypeId} {fz:Nat×Nat} {v:Value} (ht:Take hs (SL.bu b (.cells cs.toArray E fz)) hs') (hv:cs[o]? = some v):At c hs b o v:=
 At.bu ht (by simpa using hv)
section
variable {P:Program} {c:Cx} {sl:aN} {hs hs':List bd}
theorem kl {fn:Func} {t u:Tmp} {T:TypeId} {b o n:Nat} {cs vs:List Value} {E:TypeId} {fz:Nat×Nat} {y:Value} (h:fn.results=#[.cell t T,.tmp u]) (hT:Ty P T true n) (hp:dj sl t=some (.pointer (some ⟨b,o,none⟩))) (ht:Take hs (SL.bu b (.cells cs.toArray E fz)) hs') (hv:eL cs o n=vs) (hl:vs.length=n) (hy:dj sl u=some y):Ends P fn c sl hs (.tuple #[.agg vs.toArray,y]):=
 RP (xs:=[.cell t T,.tmp u]) (vs:=[.agg vs.toArray,y]) h (IJ.cons (RV.cell hp (Lf (fo.bu ht hv) hl)) (IJ.cons (RV.tmp hy) IJ.nil)) (by simp)
variable {dst:Option Tmp} {ty:TypeId} {pos:String} {af:Array Edge} {g:Option (Nat×Bool)}
theorem bz {t e:TypeId} {agg:Bool} {n size:Nat} {z:Value} {xs:List (Nat×Operand)} {ps:List (Nat×Value)} {zs cs:List Value} {places:List (Nat×Nat)} [hu:iI P t (.slice e)] [hT:Ty P e agg size] [hZ:mA P e z] (hp:xN sl xs ps)
  (hn:Nat.ble (n*size) 1000=true) (aa4:Nat.blt 0 (n*size)=true) (w9:(List.range n).map (fun i=>(i*size,size))=places) (hzs:(List.range (n*size)).map (fun i=>z.cells[i % z.cells.size]!)=zs) (hf:uE places zs ps=some cs) :
  qR P c sl hs ⟨dst,.buildSlice t n xs.toArray,ty,pos,af,g⟩ (fun b=>.w b n n) (.cells cs.toArray e):=
 kP (ps:=ps.toArray) (fun a ha=>by have:=hp.map ha;rw [List.map_toArray,this]) (fun w=>by
  have uy:n*size<=1000:=by simpa using hn
  have mD:0<n*size:=by simpa [Z8] using aa4
  unfold Instr.buildSlice;simp only [Sem.run_bind,aX hu.eq,Result.andThen_ok,gj (t:=e) (agg:=agg) (n:=size)];rw [if_neg (by omega),if_neg (by omega)];simp only [Sem.run_bind,jf (t:=e) (v:=z),Result.andThen_ok,Sem.run_pure];have h1:(Array.range (n*size)).map (fun i=>z.cells[i % z.cells.size]!)=zs.toArray:=by
   rw [<- hzs];apply Array.ext';simp
  have h2:=fill_eq (places:=places) (f:=fun i=>if i<n then some (i*size,size) else none) (fun i x hx=>by
   subst w9;simp only [ZG,Zam] at hx;obtain ⟨k,hk,rfl⟩:=hx;obtain ⟨aL,hk⟩:=Zl.1 hk;simp only [Zby] at hk;subst hk;simp only [ZaB] at aL;simp [aL]) ps zs cs hf
  have h3:Instr.fill (fun i=>some (i*size,size)) zs.toArray ps=some cs.toArray:=by
   have key:∀ (l:List (Nat×Value)) (cc:Array Value) (r:Array Value),Instr.fill (fun i=>if i<n then some (i*size,size) else none) cc l=some r->Instr.fill (fun i=>some (i*size,size)) cc l=some r:=by
    intro l
    induction l with
    | nil=>intro cc r h;exact h
    | cons x l ih =>
     obtain ⟨i,v⟩:=x;intro cc r h;simp only [Instr.fill] at h ⊢;by_cases hi:i<n
     ·rw [if_pos hi] at h;simp only at h;split at h
      ·cases h
      ·rename_i hc;rw [if_neg hc];exact ih _ _ h
     ·rw [if_neg hi] at h;cases h
   exact key ps zs.toArray cs.toArray h2
  rw [h1,h3];simp [newRow])
theorem aK {D:List Nat} {X:Act->World->Prop} {E:TypeId} {sz n:Nat} {v:Value} {xs:List Value} (ht:Take hs (row E sz v n xs) hs') (k:∀ a cap,v=.slice a n cap->Tr c D sl hs X):Tr c D sl hs X:=fun a w bb=>by
 obtain ⟨_,fp,_,⟨f1,f2,_,h1,_⟩,_⟩:=bb.pE.take ht;obtain ⟨_,_,⟨rfl,rfl⟩ | ⟨g,cap,cur,rfl,_⟩⟩:=h1
 ·exact k _ _ I a w bb
 ·exact k _ _ I a w bb
end
end Go.SL
namespace Go.SL
open Go
def NP (Q:Exit->Act->World->Prop):Exit->Act->World->Prop
 | .panic _=>fun _ _=>False
 | e=>Q e
theorem Oper.vL {F:Fence} {n:Nat} {P:Program} {o:Oper} {a:Act} {w:World} {K K':Act->World->Prop} {Q Q':Exit->Act->World->Prop} (h:∀ a w,K a w->K' a w) (hq:∀ c a w,Q (.panic c) a w->Q' (.panic c) a w) (hl:LetsOut Q->LetsOut Q')
  (hh:o.wpIn F n P a w K Q):o.wpIn F n P a w K' Q':=by
 unfold Oper.wpIn at *;refine ⟨hh.1,?_⟩;have hh:=hh.2;generalize (o.semAt F.round a.eval).run P w=r at *;cases r with
 | ok x w' =>
  cases x <;> simp only [Oper.uponIn] at hh ⊢ <;>
   first
    | exact h _ _ hh
    | exact ⟨hh.1,CallsIn.mono hh.2 (fun e z8 he=>by cases e <;> first | exact h _ _ he | exact hq _ _ _ he | exact hl he | exact he)⟩
    | exact ⟨hh.1,RowsIn.mono hh.2 (fun _ _ he=>h _ _ he)⟩
    | exact ⟨hh.1,RoundIn.mono hh.2 (fun e z8 he=>by cases e <;> first | exact h _ _ he | exact hq _ _ _ he | exact hl he | exact he)⟩
 | halt x w'=>cases x <;> simp only [Oper.uponIn] at hh ⊢ <;> first | exact hh | exact hq _ _ _ hh
section
variable {P:Program} {r:Option Nat} {c:Cx} {D:List Nat} {sl:aN} {hs hs':List bd} {Q:Exit->Act->World->Prop} {ops:Array Oper} {fuel i:Nat} {listed:Array Bool}
def Left (P:Program) (ops:Array Oper) (Q:Exit->Act->World->Prop) (fuel:Nat) (listed:Array Bool):Act->World->Prop:=wpAnyIn (FR none) 0 P .any ops (NP Q) fuel listed
theorem FJ {id:Nat} {l:List Oper} (n:Nat) [sD:UQ P] (hn:l.length=n) (k:Tr c D sl hs (Left P l.toArray Q n (Array.replicate n false))):Tr c D sl hs (WP P none (.region id l.toArray true) Q):=fun a w bb=>by
 subst hn;have h:(Code.region id l.toArray true).wpIn (FR none) 0 P (NP Q) a w:=wpIn_region_any sD.eq (by
  have:=k a w.drew (bb.heap bb.mem.drew);simpa [Left] using this)
 exact wpIn_mono h fun e a' w' h=>by
  cases e with
  | panic c=>exact h.elim
  | _=>exact h
theorem dB (i:Nat) {d:Nat} {op:Op} {ty:TypeId} {pos:String} {af:Array Edge} {V:Value} (hi:ops[i]? = some ⟨some d,op,ty,pos,af,none⟩) (hs1:Region.noSelect ops=true) (hf:Region.free .any ops listed i=true) (hr:(Region.ready .any ops listed).contains i=true)
  (Vl:∀ (w:World) (ρ:Operand->Value),Oper.about P w ρ ⟨some d,op,ty,pos,af,none⟩=none) (hv:∀ w,du P ⟨w,[],0⟩ sl [] ⟨some d,op,ty,pos,af,none⟩ V) (hd:Nat.blt d c.nt=true)
  (k:Tr c D ((d,V)::sl) hs (Left P ops Q fuel (listed.setIfInBounds i true))):Tr c D sl hs (Left P ops Q (fuel+1) listed):=fun a w bb=>by
 refine wpAnyIn_take (oi:=⟨some d,op,ty,pos,af,none⟩) I hi hs1 hf hr (fun c a w h=>h) (v:=V) ⟨.inl ⟨by simp [Region.wanted],fun w'=>?_⟩,fun w'=>Vl w' _⟩ (k _ _ (bb.put (by simpa [Z8] using hd) V));exact (hv w').2 a w' bb.dw ⟨.refl _ _,[],Zao,I,by simp⟩
def Next (P:Program) (c:Cx) (D:List Nat) (sl:aN) (hs:List bd) (ops:Array Oper) (Q:Exit->Act->World->Prop) (fuel:Nat) (listed:Array Bool) (i:Nat):Prop:=
 ∀ a w,St c D sl hs a w->wpOpIn (FR none) 0 P ops (NP Q) i (Left P ops Q fuel (listed.setIfInBounds i true)) a w
theorem bF {rs:List Nat} (hr:Region.ready .any ops listed=rs) (hne:rs≠[]) (h:∀ i∈rs,Next P c D sl hs ops Q fuel listed i):Tr c D sl hs (Left P ops Q (fuel+1) listed):=fun a w bb=>
 wpAnyIn_all hr hne fun i hi=>h i hi a w bb
theorem bK {d:Option Tmp} {op:Op} {ty:TypeId} {pos:String} {af:Array Edge} {g:Option (Nat×Bool)} (hi:ops[i]? = some ⟨d,op,ty,pos,af,g⟩) (h:Tr c D sl hs (WL P none ops (Exit.then (Left P ops Q fuel (listed.setIfInBounds i true)) (NP Q)) [⟨d,op,ty,pos,af,g⟩])):Next P c D sl hs ops Q fuel listed i:=fun a w bb=>by
 have h1:=h a w bb;unfold wpOpIn;simp only [hi];unfold WL at h1;split
 ·rename_i hw;rw [if_pos hw] at h1;exact Oper.vL (fun a w h=>h) (fun c a w h=>h) (fun h=>h) h1
 ·rename_i hw;rw [if_neg hw] at h1;exact ⟨fun _ _=>trivial,h1⟩
theorem cn (hr:Region.ready .any ops listed=[]) (k:Tr c D sl hs (Q .normal)):Tr c D sl hs (Left P ops Q fuel listed):=fun a w bb=>
 wpAnyIn_done (Q:=NP Q) hr (k a w bb) fuel
theorem JX {x:Code} (h:Tr c D sl hs (WP P none x (Exit.noGoto Q))):Tr c D sl hs (WP P none (.scope x) Q):=fun a w bb=>
 (wpIn_wide (n:=0)).2 (wp_scope_straight ((wpIn_wide (n:=0)).1 (h a w bb)))
theorem th (h:Tr c D sl hs (Q .ret)):Tr c D sl hs (Exit.noGoto Q .ret):=h
theorem J5 {l:Nat} {r:Option Nat} (h:Tr c D sl hs (Q .normal)):Tr c D sl hs (WP P r (.label l) Q):=fun a w bb=>wpIn_label (h a w bb)
variable {dst:Option Tmp} {ty:TypeId} {pos:String} {af:Array Edge} {g:Option (Nat×Bool)}
theorem iq {t u e:TypeId} {x y:Operand} {a:Option Addr} {n cp n' Vv:Nat} [hu:iI P t (.slice e)] (hx:Is sl x (.slice a n cp)) (hy:Is sl y (.slice none n' Vv)):du P c sl hs ⟨dst,.binOp .eql t x y u,ty,pos,af,g⟩ (.bool a.isNone):=
 jr hx hy fun w=>by
  have h1:(eqGuard .eql t x y (.slice a n cp) (.slice none n' Vv)).run P w=.ok () w:=by simp [eqGuard]
  rw [Sem.run_bind,h1,Result.andThen_ok];exact Go.Lib.run_eql_slice_nil w t e a n cp n' Vv hu.eq
end
end Go.SL
namespace Go.SL
open Go
class BP (b:Bool) (p q:outParam Prop):Prop where
 t:b=true->p
 f:b=false->q
instance (priority:=low) {b:Bool}:BP b (b=true) (b=false):=⟨id,id⟩
instance {p:Prop} {inst:Decidable p}:BP (@decide p inst) p (¬ p):=⟨of_decide_eq_true,of_decide_eq_false⟩
instance {a:Bool} {p q:Prop} [h:BP a p q]:BP (!a) q p:=⟨fun e=>h.f (by simpa using e),fun e=>h.t (by simpa using e)⟩
instance {a b:Bool} {p q p' q':Prop} [h:BP a p q] [h':BP b p' q']:BP (a||b) (p\/p') (q/\q'):=
 ⟨fun e=>(ZS _ _ ▸ e).elim (fun e=>.inl (h.t e)) (fun e=>.inr (h'.t e)),fun e=>by
  rw [Bool.or_eq_false_iff] at e;exact ⟨h.f e.1,h'.f e.2⟩⟩
instance {a b:Bool} {p q p' q':Prop} [h:BP a p q] [h':BP b p' q']:BP (a&&b) (p/\p') (q\/q'):=
 ⟨fun e=>by
  rw [Zn] at e;exact ⟨h.t e.1,h'.t e.2⟩,fun e=>(Bool.and_eq_false_iff.1 e).elim (fun e=>.inl (h.f e)) (fun e=>.inr (h'.f e))⟩
instance {a:Bool} {p q:Prop} [h:BP a p q]:BP (a==true) p q:=⟨fun e=>h.t (by simpa using e),fun e=>h.f (by simpa using e)⟩
instance {a:Bool} {p q:Prop} [h:BP a p q]:BP (a==false) q p:=⟨fun e=>h.f (by simpa using e),fun e=>h.t (by simpa using e)⟩
theorem ib:∀ u∈([]:List Value),u.oneCell'=true:=fun _ h=>absurd h Zo
theorem bR {v:Value} {vs:List Value} (h:v.oneCell'=true) (t:∀ u∈vs,u.oneCell'=true):∀ u∈v::vs,u.oneCell'=true:=Zp.2 ⟨h,t⟩
theorem Re {n:Int} (h:-9223372036854775808<=n/\n<=9223372036854775807):Ye n:=h
theorem br {a b:Nat} (h:Nat.ble a b=true):a<=b:=ZaA h
theorem ai {α:Type} {a b:α} (h:a=b:=by (first | (simp only [Int.toNat_zero,Int.toNat_one,Int.reduceToNat,uE,setCells,eL,partOf,Value.cells,uM,cond_true,cond_false,ZaC,Zba,List.set_cons_zero,List.set_cons_succ,Zbq,ZB,Zaf,Nat.reduceAdd,Nat.reduceMul,Nat.reduceLeDiff,and_self,and_true,true_and,if_true,List.set,List.length_set,Zv,ZF,Zas];exact I) | exact I)):a=b:=h
theorem ae {α:Type} {a b:α} (h:a=b:=by (first | (simp only [Nat.reduceAdd,ZF,Zas];exact I) | exact I)):a=b:=h
theorem aW {α:Type} {a b:α} (h:a=b:=by (first | (simp only [ZE,ZF,Int.reduceToNat,Int.toNat_zero,Int.toNat_one];exact I) | exact I)):a=b:=h
theorem gF {α:Type} {a b:α} (h:a=b:=by first | ((try simp only [Za,ZK,Zb]);exact I) | exact I):a=b:=h
theorem bI {α:Type} {a b:α} (h:a=b:=by first | (simp only [List.range,List.range.loop,List.map,Nat.reduceMul];exact I) | exact I):a=b:=h
theorem eC {a b:Nat} (h:a<=b:=by first | omega | (simp only [Zg,ZB,Zaf];omega)):a<=b:=h
theorem jw {α:Type} {a b:α} (h:a=b:=by kernel_rfl):a=b:=h
section
variable {P:Program} {r:Option Nat} {c:Cx} {D:List Nat} {sl:aN} {rl:fv} {hs hs':List bd} {Q:Exit->Act->World->Prop} {ops:Array Oper} {m d:Nat} {dst:Option Tmp} {op:Op} {ty:TypeId} {pos:String} {af:Array Edge} {rest:List Oper}
theorem Cf {t:TypeId} (hd:Nat.blt d c.nt=true) (k:∀ b,c.w0.heap.size<=b->Tr c D ((d,.map (some b))::sl) (mp (fun s:ByteArray=>Value.string s) b []::hs) (WL P r ops Q rest)) :
  Tr c D sl hs (WL P r ops Q (⟨some d,.makeMap t none,ty,pos,af,none⟩::rest)):=D8 (fun s:ByteArray=>Value.string s) hd k
variable {V:Value} {p p':Prop} {q want:Bool}
theorem eG {j g:Nat} (hj:((ops[j]?).bind (·.dst))=some g) (hq:dj sl g=some (.bool q)) (hn:(q==want)=false) (hd:Nat.blt d c.nt=true) (k:Tr c D ((d,gv (q==want) (.bool false))::sl) hs (WL P r ops Q rest)) :
  Tr c D sl hs (WL P r ops Q (⟨some d,op,ty,pos,af,some (j,want)⟩::rest)):=vO hj hq (fun e=>absurd (hn.symm.trans e) (by decide)) hd k
theorem J8 {x:Operand} {b:Bool} {p q:Prop} {u v:Code} (hx:Is sl x (.bool b)) (hb:BP b p q)
  (ht:p->Tr c D sl hs (WP P r u Q)) (hf:q->Tr c D sl hs (WP P r v Q)):Tr c D sl hs (WP P r (.cond x u v) Q):=
 FM hx (fun e=>ht (hb.t e)) (fun e=>hf (hb.f e))
theorem gV {j g:Nat} {want c0 q:Bool} (hj:((ops[j]?).bind (·.dst))=some g) (hq:dj sl g=some (gv c0 (.bool q))) [hb:BP (c0&&(q==want)) p p']
  (hr:(c0&&(q==want))=true->p->du P c sl hs ⟨some d,op,ty,pos,af,some (j,want)⟩ V) (hd:Nat.blt d c.nt=true) (k:Tr c D ((d,gv (c0&&(q==want)) V)::sl) hs (WL P r ops Q rest)) :
  Tr c D sl hs (WL P r ops Q (⟨some d,op,ty,pos,af,some (j,want)⟩::rest)):=FH hj hq (fun e=>hr e (hb.t e)) hd k
theorem aM {j g:Nat} (hj:((ops[j]?).bind (·.dst))=some g) (hq:dj sl g=some (.bool q)) [hb:BP (q==want) p p']
  (hr:(q==want)=true->p->du P c sl hs ⟨some d,op,ty,pos,af,some (j,want)⟩ V) (hd:Nat.blt d c.nt=true) (k:Tr c D ((d,gv (q==want) V)::sl) hs (WL P r ops Q rest)) :
  Tr c D sl hs (WL P r ops Q (⟨some d,op,ty,pos,af,some (j,want)⟩::rest)):=vO hj hq (fun e=>hr e (hb.t e)) hd k
theorem gJ {j gs:Nat} {want c0 q:Bool} (hj:((ops[j]?).bind (·.dst))=some gs) (hq:dj sl gs=some (gv c0 (.bool q))) [hb:BP (c0&&(q==want)) p p']
  (hr:(c0&&(q==want))=true->p->du P c sl hs ⟨some d,op,ty,pos,af,some (j,want)⟩ V) (hd:Nat.blt d c.nt=true) (k:lQ P r c D hs ops Q m rest ((d,gv (c0&&(q==want)) V)::sl) rl) :
  lQ P r c D hs ops Q (m+1) (⟨some d,op,ty,pos,af,some (j,want)⟩::rest) sl rl:=DN hj hq (fun e=>hr e (hb.t e)) hd k
theorem bM {j gs:Nat} (hj:((ops[j]?).bind (·.dst))=some gs) (hq:dj sl gs=some (.bool q)) [hb:BP (q==want) p p']
  (hr:(q==want)=true->p->du P c sl hs ⟨some d,op,ty,pos,af,some (j,want)⟩ V) (hd:Nat.blt d c.nt=true) (k:lQ P r c D hs ops Q m rest ((d,gv (q==want) V)::sl) rl) :
  lQ P r c D hs ops Q (m+1) (⟨some d,op,ty,pos,af,some (j,want)⟩::rest) sl rl:=Ie hj hq (fun e=>hr e (hb.t e)) hd k
end
theorem GI {P:Program} {c:Cx} {sl:aN} {hs:List bd} {fn:Func} {t:Tmp} {T:TypeId} {b o n:Nat} {v:Value} (h:fn.results=#[.cell t T]) (hT:Ty P T false n) (hp:dj sl t=some (.pointer (some ⟨b,o,none⟩))) (hv:At c hs b o v):Ends P fn c sl hs v:=Ux h hp hv
section
variable {P:Program} {r:Option Nat} {c:Cx} {D:List Nat} {sl:aN} {rl:fv} {hs hs':List bd} {Q:Exit->Act->World->Prop} {ops:Array Oper} {m d:Nat} {op:Op} {ty:TypeId} {pos:String} {af:Array Edge} {rest:List Oper}
variable {N:Act->World->Prop} {id:Nat} {l:List Oper} {v:Value} {x:Operand} {y:Code}
theorem s_r (h:Tr c D sl hs (WL P r l.toArray (Exit.then (WP P r y Q) Q) l)):Tr c D sl hs (WP P r (.seq (.region id l.toArray false) y) Q):=pg (ny h)
theorem n_t (h:Tr c D sl hs N):Tr c D sl hs (WL P r ops (Exit.then N Q) []):=h
theorem n_r {Q':Exit->Act->World->Prop} (h:Tr c D sl hs (WL P r l.toArray (Exit.then (WP P r y Q) Q) l)):Tr c D sl hs (WL P r ops (Exit.then (WP P r (.seq (.region id l.toArray false) y) Q) Q') []):=pg (ny h)
theorem s_t (h:Tr c D sl hs N):Tr c D sl hs (WP P r .skip (Exit.then N Q)):=FI h
theorem x_t (h:Tr c D sl hs (Q (.exit id))):Tr c D sl hs (WP P r (.exit id) (Exit.then N Q)):=N2 h
theorem r_t (h:Tr c D sl hs (Q .ret)):Tr c D sl hs (WP P r .ret (Exit.then N Q)):=JY h
theorem Q8 (hx:ev sl x=some v) (hd:Nat.blt d c.nt=true) (k:Tr c D ((d,v)::sl) hs (WL P r ops Q rest)):Tr c D sl hs (WL P r ops Q (⟨some d,.move x,ty,pos,af,none⟩::rest)):=ab (aQ (.of hx)) hd k
theorem a_s (hx:ev sl x=some v) (hd:Nat.blt d c.nt=true) (k:Tr c D ((d,v)::sl) hs (WL P r ops Q rest)):Tr c D sl hs (WL P r ops Q (⟨some d,.assign x,ty,pos,af,none⟩::rest)):=ab (cX (.of hx)) hd k
theorem fw (hx:ev sl x=some v) (hd:Nat.blt d c.nt=true) (k:lQ P r c D hs ops Q m rest ((d,v)::sl) rl):lQ P r c D hs ops Q (m+1) (⟨some d,.move x,ty,pos,af,none⟩::rest) sl rl:=aq (aQ (.of hx)) hd k
theorem bD {t:TypeId} {i o:Nat} {b k q:Nat} [eB P t i o] (hx:ev sl x=some (.pointer (some ⟨b,k,none⟩))) (hd:Nat.blt d c.nt=true) (he:k+o=q) (h:Tr c D ((d,.pointer (some ⟨b,q,none⟩))::sl) hs (WL P r ops Q rest)) :
  Tr c D sl hs (WL P r ops Q (⟨some d,.fieldAddr t x i,ty,pos,af,none⟩::rest)):=ab (ar (.of hx) he) hd h
theorem jH {t:TypeId} {i o:Nat} {b k q:Nat} [eB P t i o] (hx:ev sl x=some (.pointer (some ⟨b,k,none⟩))) (hd:Nat.blt d c.nt=true) (he:k+o=q) (h:lQ P r c D hs ops Q m rest ((d,.pointer (some ⟨b,q,none⟩))::sl) rl) :
  lQ P r c D hs ops Q (m+1) (⟨some d,.fieldAddr t x i,ty,pos,af,none⟩::rest) sl rl:=aq (ar (.of hx) he) hd h
theorem jZ {j g:Nat} {want q:Bool} (hj:((ops[j]?).bind (·.dst))=some g) (hq:dj sl g=some (.bool q)) (hx:ev sl x=some v) (hd:Nat.blt d c.nt=true) (k:Tr c D ((d,gv (q==want) v)::sl) hs (WL P r ops Q rest)) :
  Tr c D sl hs (WL P r ops Q (⟨some d,.move x,ty,pos,af,some (j,want)⟩::rest)):=vO hj hq (fun _=>aQ (.of hx)) hd k
theorem gL {p:Prop} {inst:Decidable p} {u v:Code} (hx:ev sl x=some (.bool (decide p))) (ht:p->Tr c D sl hs (WP P r u Q)) (hf:¬ p->Tr c D sl hs (WP P r v Q)):Tr c D sl hs (WP P r (.cond x u v) Q):=Hb (.of hx) ht hf
theorem oK {b:Bool} {p q:Prop} {u v:Code} (hx:ev sl x=some (.bool b)) [hb:BP b p q] (ht:p->Tr c D sl hs (WP P r u Q)) (hf:q->Tr c D sl hs (WP P r v Q)):Tr c D sl hs (WP P r (.cond x u v) Q):=J8 (.of hx) hb ht hf
end
end Go.SL
