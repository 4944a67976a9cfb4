/- Parts of the proof: GkRow GkLoop GkRange GkSlice K1Ty GkSeq GkMake GkTab GkAnyL GkFin. -/
import Derived.Test.YteonnodafmegaaaGreatDoorOM02
import Derived.Laws.AppendOwn
import Derived.Laws.RangeAny
import Derived.Laws.Slices
import Derived.Test.YteonnodafmegaaaGreatDoorProg
import Derived.Laws.MakeOwn
import Derived.Scope
import Derived.Lib.SliceRun
set_option linter.unusedSectionVars false
set_option linter.unusedVariables false
set_option linter.unusedSimpArgs false
namespace Go.SL
open Go
def Rd (w:World) (v:Value) (sz:Nat) (xs:List (List Value)):Prop:=
 ∃ a cap b o,v=.slice a xs.length cap/\xs.length<=cap/\cap<=maxLen/\(xs≠[]->a=some ⟨b,o,none⟩)/\∀ i r,xs[i]? = some r->r.length=sz/\∀ j u,r[j]? = some u->w.cell? ⟨b,o+i*sz+j,none⟩=some u
variable {X:Act->World->Prop} {fp:List Nat} {n sz:Nat} {v:Value} {w:World} {xs:List (List Value)}
theorem Rd.keeps {w w':World} (h:Rd w v sz xs) (hk:aJ [] w w'):Rd w' v sz xs:=by
 obtain ⟨a,cap,b,o,h1,h2,Ic,h3,h4⟩:=h;refine ⟨a,cap,b,o,h1,h2,Ic,h3,fun i r hr=>⟨(h4 i r hr).1,fun j u hu=>?_⟩⟩;have:=(h4 i r hr).2 j u hu;have hb:=World.block_lt_of_cell? w _ this;rw [<- this];simp only [World.cell?];rw [hk.block b hb (by simp)]
theorem Rd.nil (w:World) (sz:Nat):Rd w (.z) sz []:=⟨none,0,0,0,I,Zy _,by unfold maxLen;omega,fun h=>absurd I h,fun i r h=>by simp at h⟩
theorem rd1 {b o i:Nat} {u:Value} (h:∀ i r,xs[i]? = some r->r.length=1/\∀ j u,r[j]? = some u->w.cell? ⟨b,o+i*1+j,none⟩=some u) (hr:xs[i]? = some [u]):w.cell? ⟨b,o+i*1,none⟩=some u:=(h i _ hr).2 0 u I
theorem Mem.dz {c:Cx} {hs hs':List bd} (hm:Mem c hs w) {b:Nat} {cs:List Value} {E:TypeId} {fz:Nat×Nat} (ht:Take hs (SL.bE b (.cells cs.toArray E fz)) hs') {n:Nat} (hn:cs.length=n) (hle:Nat.ble n 1000=true):Rd w (.w b n n) 1 (cs.map fun v=>[v]):=by
 subst hn;have Qu:cs.length<=1000:=by simpa using hle
 refine ⟨_,cs.length,b,0,by simp,by simp,by unfold maxLen;omega,fun _=>rfl,fun i r hr=>?_⟩;rw [ZE,Zal] at hr;obtain ⟨v,hv,rfl⟩:=hr;refine ⟨I,fun j u hu=>?_⟩;cases j with
 | zero =>
  simp only [ZaC,Option.some.injEq] at hu;subst hu;rw [cell_of_block (hm.bE ht)];simpa using hv
 | succ j=>simp at hu
def row (E:TypeId) (sz:Nat) (v:Value) (n:Nat) (xs:List Value):bd where
 sat h fp:=fp=v.ownBlock.toList/\xs.length=n*sz/\((v=.z/\n=0) \/
  ∃ g cap cur,v=.w g n cap/\h g=some (.cells cur E (0,0))/\n<=cap/\cap<=maxLen/\cur.size=cap*sz/\cur.toList.take (n*sz)=xs)
 loc:=by
  rintro h h' fp ⟨e,hl,h1⟩ hb;refine ⟨e,hl,h1.imp id ?_⟩;rintro ⟨g,cap,cur,rfl,hg,r⟩;exact ⟨g,cap,cur,I,by rw [hb g (by rw [e];simp [Value.ownBlock])];exact hg,r⟩
 own:=by
  rintro h fp ⟨e,hl,h1⟩ b hb;rcases h1 with ⟨rfl,_⟩ | ⟨g,cap,cur,rfl,hg,_⟩
  ·rw [e] at hb;simp [Value.ownBlock] at hb
  ·rw [e] at hb;simp [Value.ownBlock] at hb;subst hb;exact ⟨_,hg⟩
theorem vX {E:TypeId} {xs:List Value} (h:(row E sz v n xs).sat (hp w) fp):w.ownsRow 0 E sz v n xs:=by
 obtain ⟨_,hl,h1⟩:=h;exact ⟨hl,h1.imp id fun ⟨g,cap,cur,e,hg,r⟩=>⟨g,cap,cur,e,Zi _,hg,r⟩⟩
theorem kO {E:TypeId} {xs:List Value} (h:w.ownsRow 0 E sz v n xs):(row E sz v n xs).sat (hp w) v.ownBlock.toList:=by
 obtain ⟨hl,h1⟩:=h;exact ⟨I,hl,h1.imp id fun ⟨g,cap,cur,e,_,hg,r⟩=>⟨g,cap,cur,e,hg,r⟩⟩
theorem Mem.TG {c:Cx} {hs:List bd} (hm:Mem c hs w) (E:TypeId) (sz:Nat):Mem c (row E sz (.z) 0 []::hs) w:=
 Mem.change (As:=[]) (Bs:=[row E sz (.z) 0 []]) hm fun fp _ hf=>by
  rw [show fp=[] from hf];exact ⟨.refl _ _,[],Zan,⟨[],[],I,⟨I,by simp,.inl ⟨I,I⟩⟩,I⟩,by simp⟩
theorem aN {c:Cx} {D:List Nat} {sl:aL} {hs:List bd} (E:TypeId) (sz:Nat) (k:Tr c D sl (row E sz (.z) 0 []::hs) X):Tr c D sl hs X:=fun a w ba=>
 k a w (ba.heap (ba.mem.TG E sz))
theorem pK {sz j:Nat} {r:List Value} {u:Value}:∀ (xs:List (List Value)) (i:Nat),(∀ r∈xs,r.length=sz)->xs[i]? = some r->r[j]? = some u->xs.flatten[i*sz+j]? = some u
 | [],i,_,hr,_=>by simp at hr
 | x :: xs, 0, hx, hr, hu => by
  simp at hr;subst hr;rw [ZaB,ZB (by rw [Zbo,ZD];exact (Zn.1 hu).1),Zbo,ZD];exact hu
 | x :: xs, i + 1, hx, hr, hu => by
  have Qh:=hx x (by simp);rw [ZaB,ZC (by rw [Qh,Zai];omega),Qh,Zai,show i*sz+sz+j-sz=i*sz+j from by omega];exact pK xs i (fun r N8=>hx r (by simp [N8])) (by simpa using hr) hu
theorem TF {E:TypeId} (hx:∀ r∈xs,r.length=sz) (hn:xs.length=n) (h:(row E sz v n xs.flatten).sat (hp w) fp):Rd w v sz xs:=by
 subst hn;obtain ⟨_,hl,h1⟩:=h;rcases h1 with ⟨rfl,hn⟩ | ⟨g,cap,cur,rfl,hg,dd,hm,hsz,fH⟩
 ·have:xs=[]:=Zas.1 hn;subst this;exact Rd.nil w sz
 ·refine ⟨_,cap,g,0,I,dd,hm,fun _=>rfl,fun i r hr=>⟨hx r (Z5 hr),fun j u hu=>?_⟩⟩;have X0:w.heap[g]? = some (.cells cur E (0,0)):=hg;rw [cell_of_block X0];have Xw:=hx r (Z5 hr);have hi:i<xs.length:=(Zn.1 hr).1;have hj:j<sz:=by rw [<- Xw];exact (Zn.1 hu).1
  have Sf:xs.flatten[i*sz+j]? = some u:=pK xs i hx hr hu;have aK:i*sz+j<xs.length*sz:=by
   have:(i+1)*sz<=xs.length*sz:=Z7 _ hi;rw [Zai] at this;omega
  rw [<- fH,ZP,if_pos aK] at Sf;simpa using Sf
theorem Mem.o9 {c:Cx} {hs hs':List bd} (hm:Mem c hs w) {E:TypeId} {sz:Nat} {v:Value} {n:Nat} {ys:List Value} {xs:List (List Value)} (ht:Take hs (row E sz v n ys) hs') (he:ys=xs.flatten) (hx:∀ r∈xs,r.length=sz) (hn:xs.length=n):Rd w v sz xs:=by
 subst he;obtain ⟨_,fp,_,⟨f1,f2,_,h1,_⟩,_⟩:=hm.take ht;exact TF hx hn h1
theorem lZ {α:Type} (l:List α):(l.map fun v=>[v]).flatten=l:=by
 induction l with
 | nil=>rfl
 | cons x l ih=>simp [ih]
theorem Mem.K9 {c:Cx} {hs hs':List bd} (hm:Mem c hs w) {E:TypeId} {v:Value} {n:Nat} {ys:List Value} (ht:Take hs (row E 1 v n ys) hs') (hn:ys.length=n):Rd w v 1 (ys.map fun u=>[u]):=
 hm.o9 ht (lZ ys).symm (fun r hr=>by obtain ⟨u,_,rfl⟩:=Zx.1 hr;rfl) (by simpa using hn)
theorem dy {c:Cx} {D:List Nat} {sl:aL} {hs hs':List bd} {E:TypeId} {xs:List Value} (ht:Take hs (row E sz v n xs) hs') (hn:0<n)
  (k:∀ g cap cur,v=.w g n cap->n<=cap->cap<=maxLen->(xs++cur).length=cap*sz->xs.length=n*sz->Tr c D sl (bE g (.cells (xs++cur).toArray E (0,0))::hs') X):Tr c D sl hs X:=fun a w ba=>by
 have hm:=ba.mem.take (ht.append _);obtain ⟨kk,fp,jw,⟨f1,f2,rfl,⟨e,hl,h1⟩,h2⟩,hb⟩:=hm;rcases h1 with ⟨_,h0⟩ | ⟨g,cap,cur,rfl,hg,dd,Bj,hsz,fH⟩
 ·omega
 ·have od:cur=(xs++cur.toList.drop (n*sz)).toArray:=by
   rw [<- fH,Z0]
  have hlen:(xs++cur.toList.drop (n*sz)).length=cap*sz:=by rw [<- fH,Z0];simpa using hsz
  refine k g cap (cur.toList.drop (n*sz)) I dd Bj hlen hl a w (ba.heap ⟨kk,f1++f2,jw,⟨f1,f2,I,⟨?_,?_⟩,h2⟩,hb⟩)
  ·rw [e];rfl
  ·rw [<- od];exact hg
theorem Mem.Pj {c:Cx} {hs:List bd} {E:TypeId} {sz g n cap:Nat} {xs cur:List Value} (hm:Mem c (SL.bE g (.cells (xs++cur).toArray E (0,0))::hs) w) (dd:n<=cap) (Bj:cap<=maxLen) (hsz:(xs++cur).length=cap*sz) (hl:xs.length=n*sz):Mem c (row E sz (.w g n cap) n xs::hs) w:=by
 obtain ⟨kk,fp,jw,⟨f1,f2,rfl,⟨e,hg⟩,h2⟩,hb⟩:=hm;refine ⟨kk,f1++f2,jw,⟨f1,f2,I,⟨by rw [e];rfl,hl,.inr ⟨g,cap,_,I,hg,dd,Bj,by simpa using hsz,?_⟩⟩,h2⟩,hb⟩;simp [<- hl]
theorem dC {c:Cx} {D:List Nat} {sl:aL} {hs hs':List bd} {E:TypeId} {sz g n cap:Nat} {xs cur:List Value} (ht:Take hs (bE g (.cells (xs++cur).toArray E (0,0))) hs') (dd:n<=cap) (Bj:cap<=maxLen) (hsz:(xs++cur).length=cap*sz) (hl:xs.length=n*sz)
  (k:Tr c D sl (row E sz (.w g n cap) n xs::hs') X):Tr c D sl hs X:=fun a w ba=>
 k a w (ba.heap (Mem.Pj (ba.mem.take (ht.append _)) dd Bj hsz hl))
section
variable {P:Program} {r:Option Nat} {c:Cx} {D:List Nat} {sl:aL} {hs hs':List bd} {ops:Array Oper} {Q:Exit->Act->World->Prop} {d:Nat} {ty:TypeId} {pos:String} {af:Array Edge} {rest:List Oper}
variable {z:Value}
theorem oq {w w':World} {t ty e:TypeId} {i:TypeInfo} (ht:P.underlying t=some (.slice e)) (hi:P.info? e=some i) (hz:i.zero=some z)
  {v v':Value} {n:Nat} {xs:List Value} (pE:w.ownsRow 0 e i.size v n xs) {a:Addr} {m cp:Nat} {news:List Value} (hl:news.length=m*i.size) (sG:∀ j u,news[j]? = some u->w.cell? (a.add j)=some u) (h1:∀ u∈news,u.oneCell'=true)
  (h63:n+m<=maxLen) (gJ:(n+m)*i.bytes<=140737488355328) (iH:(Builtin.append_ #[t,t] ty #[v,.slice (some a) m cp]).run P w=.ok v' w'):(v'.ownBlock=v.ownBlock\/v'.ownBlock=some w.heap.size)/\w.drawn<=w'.drawn:=by
 have abQ:n+m<=9223372036854775807:=by simp only [maxLen] at h63;omega
 rcases pE.2 with ⟨rfl,rfl⟩ | ⟨g,cap,cur,rfl,UZ,hg,hnc,hcm,Sh,fH⟩
 ·by_cases hm:m=0
  ·subst hm;have hn:news=[]:=Z8 (by simpa using hl);subst hn;have:(Builtin.append_ #[t,t] ty #[.z,.slice (some a) 0 cp]).run P w=.ok (.z) w:=by
    simp [Builtin.append_,aY ht,sizeOf,typeInfo,hi,Builtin.lenOf,Builtin.firstCells,loadCells,loadCellsFrom]
   rw [iH] at this;cases this;exact ⟨.inl I,Zy _⟩
  ·have hr:=run_append_nil (P:=P) w t ty e i z ht hi hz a m cp news hl sG (by omega) (by omega) (by have hb:=gJ;simp only [ZD] at hb;omega);rw [iH] at hr;cases hr;exact ⟨.inr I,Nat.le_succ _⟩
 ·by_cases zH:n+m<=cap
  ·have hfit:n*i.size+news.length<=cur.size:=by rw [hl,Sh,<- Nat.add_mul];exact Z7 _ zH
   have hr:=run_append_room (P:=P) w t ty e i ht hi g n cap cur hg a m cp news hl sG h1 zH hfit;rw [iH] at hr;cases hr;exact ⟨.inl I,Zy _⟩
  ·have holds:∀ j u,xs[j]? = some u->w.cell? ((⟨g,0,none⟩:Addr).add j)=some u:=pE.cells (g:=g) I;have hr:=run_append_grow (P:=P) w t ty e i z ht hi hz ⟨g,0,none⟩ n cap xs pE.1 holds a m cp news hl sG (by omega) (by omega) (growslice_fits (by omega) gJ);rw [iH] at hr;cases hr;exact ⟨.inr I,Nat.le_succ _⟩
theorem y8 {t e:TypeId} {agg:Bool} {size bytes:Nat} {x y:Operand} {v:Value} {n b o m cp:Nat} {xs news:List Value} [hu:ja P t (.slice e)] [hT:Ty P e agg size] [hZ:mn P e z] [hB:u6 P e bytes]
  (hx:Is sl x v) (hy:Is sl y (.slice (some ⟨b,o,none⟩) m cp)) (ht:Take hs (row e size v n xs) hs') (hn:eZ c hs b o news) (hl:news.length=m*size) (h1:∀ u∈news,u.oneCell'=true) (hz:z.cells.size=size) (hsz:Nat.blt 0 size=true) (hb0:Nat.blt 0 bytes=true)
  (hb:(n+m)*bytes<=140737488355328) (hd:Nat.blt d c.nt=true)
  (k:∀ v',Tr c D ((d,v')::sl) (row e size v' (n+m) (xs++news)::hs') (WL P r ops Q rest)) :
  Tr c D sl hs (WL P r ops Q (⟨some d,.call ⟨.builtin .append,#[x,y],#[t,t]⟩,ty,pos,af,none⟩::rest)):=fun a w ba=>by
 obtain ⟨de,i,mZ,hi,_,gY⟩:=Ty.parts (P:=P) (t:=e) (agg:=agg) (n:=size);have hzero:i.zero=some z:=by have:=hZ.eq;rw [hi] at this;simpa using this
 have gJ:i.bytes=bytes:=by have:=hB.eq;rw [hi] at this;simpa using this
 have hm0:=ba.pq;have hm:=ba.mem.take (ht.append _);obtain ⟨kk,fp,jw,⟨f1,f2,rfl,hrow,h2⟩,Bm⟩:=hm;have pE:=vX hrow;have xj:0<bytes:=by simpa using hb0
 have bO:n+m<=maxLen:=by
  have:(n+m)*1<=(n+m)*bytes:=Zbd _ xj;unfold maxLen;omega
 obtain ⟨v',w',iH,pD,sJ,_⟩:=run_append_own (P:=P) w 0 t ty e i z size bytes hu.eq hi hzero gY gJ hz (by simpa using hsz) v n xs pE ⟨b,o,none⟩ m cp news hl
  (fun j u hj=>by rw [eM];exact hn.get j u hj w hm0) h1 bO hb (Zi _)
 have tP:=oq (P:=P) (t:=t) (ty:=ty) hu.eq hi hzero (by rw [gY];exact pE) (a:=⟨b,o,none⟩) (m:=m) (cp:=cp) (by rw [gY];exact hl) (fun j u hj=>by rw [eM];exact hn.get j u hj w hm0) h1 bO (by rw [gJ];exact hb) iH
 refine nn I ⟨eA _ _ _ _ _,?_⟩;rw [Oper.semAt_eq _ _ _ (by simp)];have:(execOp a.eval ⟨some d,.call ⟨.builtin .append,#[x,y],#[t,t]⟩,ty,pos,af,none⟩).run P w=.ok (.value v') w':=by
  simp [execOp,resolve,invoke,builtin,hx a ba.du,hy a ba.du,iH]
 rw [this];refine k v' _ _ ((ba.put (by simpa [Zac] using hd) v').heap ?_);have hm:Mem c ([row e size v n xs]++(hs'++nB D)) w:=⟨kk,f1++f2,jw,⟨f1,f2,I,hrow,h2⟩,Bm⟩;have:=Mem.change (Bs:=[row e size v' (n+m) (xs++news)]) (w':=w') hm fun fp uD hf=>by
  obtain ⟨g1,g2,e1,hr,e2⟩:=hf;have B0:fp=v.ownBlock.toList:=by rw [e1,show g2=[] from e2,hr.1];simp
  refine ⟨⟨sJ.os,sJ.tape,sJ.output,tP.2,sJ.size,fun q hq XK=>sJ.block q hq (fun he=>XK ?_)⟩,v'.ownBlock.toList,?_,⟨_,[],by simp,kO pD,I⟩,fun q hq=>?_⟩
  ·rw [B0,<- he];simp
  ·cases v'.ownBlock <;> simp
  ·have uC:v'.ownBlock=some q:=by simpa [Option.mem_toList] using hq
   rcases tP.1 with h | h
   ·left;rw [B0,<- h,uC];simp
   ·right
    rw [h] at uC;cases uC;exact Zy _
 simpa using this
end
end Go.SL
namespace Go.SL
open Go
def DV {ι:Type} (c:Cx) (D:List Nat) (Φ:ι->Prop) (sI:ι->aL) (hI:ι->List bd) (μ:ι->Nat) (i:ι):Act->World->Prop:=fun a w=>∃ j,Φ j/\μ j<μ i/\St c D (sI j) (hI j) a w
def z7 {ι:Type} (c:Cx) (D:List Nat) (Φ:ι->Prop) (sI:ι->aL) (hI:ι->List bd):Act->World->Prop:=fun a w=>∃ i,Φ i/\St c D (sI i) (hI i) a w
section
variable {P:Program} {r:Option Nat} {c:Cx} {D:List Nat} {sl:aL} {hs hs':List bd} {Q:Exit->Act->World->Prop} {ι:Type} {Φ:ι->Prop} {sI:ι->aL} {hI:ι->List bd} {μ:ι->Nat}
theorem aV {x:Code} (Φ:ι->Prop) (sI:ι->aL) (hI:ι->List bd) (μ:ι->Nat) (h0:Tr c D sl hs (z7 c D Φ sI hI))
  (round:∀ i,Φ i->Tr c D (sI i) (hI i) (WP P r x (Exit.then (DV c D Φ sI hI μ i) Q))):Tr c D sl hs (WP P r (.loop x) Q):=
 OM Φ sI hI μ h0 round
def mh (sl:aL):aL->Prop
 | []=>True
 | (t,v)::r=>db sl t=some v/\mh sl r
theorem mh.get:∀ {jX:aL},mh sl jX->∀ t v,db jX t=some v->db sl t=some v
 | [],_,t,v,h=>by cases h
 | (u, x) :: r, ⟨h1, h2⟩, t, v, h => by
  by_cases e:u=t
  ·subst e;rw [gC] at h;cases h;exact h1
  ·rw [gB e] at h;exact mh.get h2 t v h
theorem mh.nil:mh sl []:=trivial
variable {s:ByteArray} {t:Nat} {x:Operand}
theorem mh.cons {v:Value} {r:aL} (h:db sl t=some v) (k:mh sl r):mh sl ((t,v)::r):=⟨h,k⟩
theorem mh.Nh {v u:Value} {r:aL} (h:db sl t=some u) (e:u=v) (k:mh sl r):mh sl ((t,v)::r):=⟨e ▸ h,k⟩
theorem St.weaken {jX:aL} {hs1 rest:List bd} {a:Act} {w:World} (h:St c D sl hs a w) (hs':mh sl jX) (ht:bB hs hs1 rest):St c D jX hs1 a w:=by
 refine ⟨?_,h.du.sub hs'.get,h.size,h.defers⟩;have h1:=h.mem.jj (ht.append (nB D))
 -- hs1++(rest++nB):forget DZ rest
 obtain ⟨k,fp,hn,iZ,hb⟩:=h1;obtain ⟨f1,f2,rfl,s1,s2⟩:=cr.append_iff.1 iZ;obtain ⟨g1,g2,rfl,s3,s4⟩:=cr.append_iff.1 s2;refine ⟨k,f1++g2,?_,cr.append_iff.2 ⟨f1,g2,I,s1,s4⟩,fun b dK=>hb b ?_⟩
 ·obtain ⟨n1,n2,n3⟩:=ZG.1 hn;obtain ⟨_,n5,_⟩:=ZG.1 n2;exact ZG.2 ⟨n1,n5,fun x hx y hy=>n3 x hx y (ZU _ hy)⟩
 ·rcases Zz.1 dK with h | h
  ·exact ZF _ h
  ·exact ZU _ (ZU _ h)
theorem aH {i:ι} (j:ι) {rest:List bd} (hΦ:Φ j) (hμ:μ j<μ i) (hs1:mh sl (sI j)) (ht:bB hs (hI j) rest):Tr c D sl hs (DV c D Φ sI hI μ i):=
 fun a w ba=>⟨j,hΦ,hμ,ba.weaken hs1 ht⟩
theorem aI (j:ι) {rest:List bd} (hΦ:Φ j) (hs1:mh sl (sI j)) (ht:bB hs (hI j) rest):Tr c D sl hs (z7 c D Φ sI hI):=
 fun a w ba=>⟨j,hΦ,ba.weaken hs1 ht⟩
def S0 (c:Cx) (D:List Nat) {ι:Type} (Φ:ι->Prop) (sM:ι->aL) (hM:ι->List bd):Act->World->Prop:=fun a w=>∃ x,Φ x/\St c D (sM x) (hM x) a w
theorem Ku {x y:Code} (Φ:ι->Prop) (sM:ι->aL) (hM:ι->List bd) (h1:Tr c D sl hs (WP P r x (Exit.then (S0 c D Φ sM hM) Q))) (h2:∀ x,Φ x->Tr c D (sM x) (hM x) (WP P r y Q)):Tr c D sl hs (WP P r (.seq x y) Q):=
 qZ fun a w ba=>wpIn_mono (h1 a w ba) fun e a' w' h=>by
  cases e with
  | normal=>obtain ⟨x,hx,hs⟩:=h;exact h2 x hx a' w' hs
  | _=>exact h
theorem vd (x:ι) {sM:ι->aL} {hM:ι->List bd} {rest:List bd} (hΦ:Φ x) (h1:mh sl (sM x)) (ht:bB hs (hM x) rest):Tr c D sl hs (S0 c D Φ sM hM):=fun a w ba=>⟨x,hΦ,ba.weaken h1 ht⟩
variable {ops:Array Oper} {d:Nat} {dst:Option Tmp} {ty:TypeId} {pos:String} {af:Array Edge} {g:Option (Nat×Bool)} {rest:List Oper}
theorem HC {t:TypeId} [hu:ja P t .string] (hx:Is sl x (.string s)):qL P c sl hs ⟨dst,.range t x,ty,pos,af,g⟩ (fun b=>.p b) (.stringIter s 0):=
 ⟨by simp,fun a w ha _=>by simp [execOp,hx a ha,Instr.range,aY hu.eq]⟩
theorem Ks {b p:Nat} (hx:Is sl x (.p b)) (ht:Take hs (bE b (.stringIter s p)) hs') (hd:Nat.blt d c.nt=true)
  (kt:p<s.size->Tr c D ((d,.tuple [Value.bool true,.q p,.int .i32 (Utf8.decode s p).1].toArray)::sl) (bE b (.stringIter s (p+(Utf8.decode s p).2))::hs') (WL P r ops Q rest))
  (kf:¬ p<s.size->Tr c D ((d,.tuple [Value.bool false].toArray)::sl) (bE b (.stringIter s p)::hs') (WL P r ops Q rest)) :
  Tr c D sl hs (WL P r ops Q (⟨some d,.next x true,ty,pos,af,none⟩::rest)):=fun a w ba=>by
 have hm:=ba.mem.take (ht.append _);have hb:w.heap[b]? = some (.stringIter s p):=hm.bE .here;have aK:=kV (w:=w) hb;refine nn I ⟨eA _ _ _ _ _,?_⟩;rw [Oper.semAt_eq _ _ _ (by simp)];by_cases h:p<s.size
 ·have:(execOp a.eval ⟨some d,.next x true,ty,pos,af,none⟩).run P w=.ok (.value (.tuple [Value.bool true,.q p,.int .i32 (Utf8.decode s p).1].toArray)) (setBlock w b (.stringIter s (p+(Utf8.decode s p).2))):=by
   simp [execOp,hx a ba.du,Instr.next,getObj,setObj,Sem.run,hb,h,goInt,setBlock]
  rw [this];exact kt h _ _ ((ba.put (by simpa [Zac] using hd) _).heap (Mem.store hm (aJ.setBlock w b _) (mT aK)))
 ·have:(execOp a.eval ⟨some d,.next x true,ty,pos,af,none⟩).run P w=.ok (.value (.tuple [Value.bool false].toArray)) w:=by
   simp [execOp,hx a ba.du,Instr.next,getObj,Sem.run,hb,h]
  rw [this];exact kf h _ _ ((ba.put (by simpa [Zac] using hd) _).heap hm)
structure KeyLaw (kind:TypeDesc) {κ:Type} [DecidableEq κ] (kv:κ->Value):Prop where
 same:∀ a b,Instr.sameNow kind (kv a) (kv b)=some (decide (a=b))
 bits:∀ a,Instr.sameBits 10000 (kv a) (kv a)=true
 flat:∀ (P:Program) (t:TypeId) (e:Bool) (w:World) (a:κ),P.underlying t=some kind->(Instr.checkKey e 10000 t (kv a)).run P w=.ok () w
structure LJ {κ:Type} (kv:κ->Value) (l:List (κ×Value)) (es:Array MapEntry) (ck:Nat):Prop where
 eq:es.toList.map (fun e=>(e.key,e.val))=l.map (fun p=>(kv p.1,p.2))
 nd:(es.toList.map (·.born)).Nodup
 lt:∀ x∈es.toList,x.born<ck
def mp {κ:Type} (kv:κ->Value) (b:Nat) (l:List (κ×Value)):bd where
 sat h fp:=fp=[b]/\∃ es clock,h b=some (.map es clock)/\LJ kv l es clock
 loc:=fun ⟨e,es,ck,h1,h2⟩ hb=>⟨e,es,ck,by rw [hb _ (by rw [e];simp)];exact h1,h2⟩
 own:=fun ⟨e,es,ck,h1,h2⟩ b' dK=>by rw [e] at dK;rw [ZL.1 dK];exact ⟨_,h1⟩
def fc {κ:Type} [DecidableEq κ] (k:κ):List (κ×Value)->Option Value
 | []=>none
 | (x,v)::r=>if k=x then some v else fc k r
def nG {κ:Type} [DecidableEq κ] (k:κ) (v:Value):List (κ×Value)->List (κ×Value)
 | []=>[(k,v)]
 | (x,u)::r=>if k=x then (x,v)::r else (x,u)::nG k v r
section
variable {κ:Type} [DecidableEq κ] {kv:κ->Value} {kind:TypeDesc}
theorem findNow_spec (hk:KeyLaw kind kv) (k:κ):∀ (es:List MapEntry) (l:List (κ×Value)) (i:Nat),es.map (fun e=>(e.key,e.val))=l.map (fun p=>(kv p.1,p.2)) ->
  (fc k l=none/\Instr.findNow kind (kv k) es i=some none) \/
  (∃ j v,fc k l=some v/\Instr.findNow kind (kv k) es i=some (some (i+j,v))/\j<es.length/\(∃ x,l[j]? = some (x,v)/\x=k)/\∀ u,nG k u l=l.set j (k,u))
 | [],[],i,_=>.inl ⟨rfl,rfl⟩
 | [],_::_,i,h=>by simp at h
 | _::_,[],i,h=>by simp at h
 | e :: es, (x, v) :: l, i, h => by
  simp only [Z3,List.cons.injEq,Prod.mk.injEq] at h;obtain ⟨⟨h1,h2⟩,h3⟩:=h;have hs:=hk.same k x;unfold Instr.findNow;rw [h1,hs];by_cases e':k=x
  ·subst e';refine .inr ⟨0,v,by simp [fc],by simp [h2],by simp,⟨k,by simp,I⟩,fun u=>by simp [nG]⟩
  ·simp only [e',decide_false];rcases findNow_spec hk k es l (i+1) h3 with ⟨a1,a2⟩ | ⟨j,u,a1,a2,a3,⟨y,a4,a5⟩,a6⟩
   ·exact .inl ⟨by simp [fc,e',a1],a2⟩
   ·exact .inr ⟨j+1,u,by simp [fc,e',a1],by rw [a2];congr 3;omega,by simp;omega,⟨y,by simpa using a4,a5⟩,fun u'=>by simp [nG,e',a6 u']⟩
theorem zY {k:κ} {v:Value}:∀ {l:List (κ×Value)},fc k l=none->nG k v l=l++[(k,v)]
 | [],_=>rfl
 | (x, u) :: r, h => by
  simp only [fc] at h;split at h
  ·cases h
  ·rename_i e;simp [nG,e,zY h]
theorem Ei {t:TypeId} (kv:κ->Value) (hd:Nat.blt d c.nt=true) (k:∀ b,c.w0.heap.size<=b->Tr c D ((d,.map (some b))::sl) (mp kv b []::hs) (WL P r ops Q rest)) :
  Tr c D sl hs (WL P r ops Q (⟨some d,.makeMap t none,ty,pos,af,none⟩::rest)):=
 bj EB hd fun b hb a w ba=>k b hb a w (ba.heap (by
  obtain ⟨kk,fp,hn,⟨f1,f2,rfl,⟨e,h1⟩,h2⟩,Bm⟩:=ba.mem;exact ⟨kk,f1++f2,hn,⟨f1,f2,I,⟨e,#[],0,h1,I,Zan,fun _ h=>by cases h⟩,h2⟩,Bm⟩))
def Looks (c:Cx) (hs:List bd) (b:Nat) (kv:κ->Value) (l:List (κ×Value)):Prop:=∀ w,Mem c hs w->∃ es clock,w.heap[b]? = some (.map es clock)/\LJ kv l es clock
variable {b:Nat} {k:κ} {l:List (κ×Value)}
theorem Looks.mp (ht:Take hs (SL.mp kv b l) hs'):Looks c hs b kv l:=fun w hm=>by
 obtain ⟨_,fp,_,⟨f1,f2,_,⟨_,es,ck,h1,h2⟩,_⟩,_⟩:=hm.take ht;exact ⟨es,ck,h1,h2⟩
theorem HD {t kt et:TypeId} {x y:Operand} {z:Value} [hu:ja P t (.map kt et)] [H6:ja P kt kind] [hz:mn P et z] (hk:KeyLaw kind kv) (hx:Is sl x (.map (some b))) (hy:Is sl y (kv k)) (hl:Looks c hs b kv l) :
  di P c sl hs ⟨dst,.lookup t x y false,ty,pos,af,g⟩ ((fc k l).getD z):=
 ⟨by
   simp,fun a w ha hm=>by
  obtain ⟨es,ck,h1,h2⟩:=hl w hm;have hg:(getObj b).run P w=.ok (.map es ck) w:=by simp [getObj,Sem.run,h1]
  have uG:=hk.flat P kt es.isEmpty w k H6.eq;rcases findNow_spec hk k es.toList l 0 h2.eq with ⟨a1,a2⟩ | ⟨j,v,a1,a2,_⟩
  ·have:(Instr.findKey kt (kv k) es.toList).run P w=.ok none w:=by
    simp [Instr.findKey,aY H6.eq,a2]
   simp [execOp,hx a ha,hy a ha,Instr.lookup,aY hu.eq,hg,uG,this,a1,jc (t:=et) (v:=z)]
  ·have:(Instr.findKey kt (kv k) es.toList).run P w=.ok (some (0+j,v)) w:=by
    simp [Instr.findKey,aY H6.eq,a2]
   simp [execOp,hx a ha,hy a ha,Instr.lookup,aY hu.eq,hg,uG,this,a1]⟩
theorem nP {t kt et:TypeId} {x y v':Operand} {v:Value} [hu:ja P t (.map kt et)] [H6:ja P kt kind] (hk:KeyLaw kind kv) (hx:Is sl x (.map (some b))) (hy:Is sl y (kv k)) (hv:Is sl v' v) (ht:Take hs (mp kv b l) hs')
  (kk:Tr c D sl (mp kv b (nG k v l)::hs') (WL P r ops Q rest)):Tr c D sl hs (WL P r ops Q (⟨none,.mapUpdate t x y v',ty,pos,af,none⟩::rest)):=fun a w ba=>by
 have hm:=ba.mem.take (ht.append _);obtain ⟨kk0,fp,hn,⟨f1,f2,rfl,⟨e,es,ck,h1,h2⟩,h3⟩,Bm⟩:=hm;have yE:w.heap[b]? = some (.map es ck):=h1;have hm:Mem c ([mp kv b l]++(hs'++nB D)) w:=⟨kk0,f1++f2,hn,⟨f1,f2,I,⟨e,es,ck,h1,h2⟩,h3⟩,Bm⟩;have hg:(getObj b).run P w=.ok (.map es ck) w:=by simp [getObj,Sem.run,yE]
 have Be:∀ o,(setObj b o).run P w=.ok () (setBlock w b o):=fun o=>by simp [setObj,Sem.run,yE,setBlock]
 have uG:=hk.flat P kt false w k H6.eq;have aK:=kV (w:=w) yE;have iH:∃ QW YQ,(execOp a.eval ⟨none,.mapUpdate t x y v',ty,pos,af,none⟩).run P w=.ok .skip (setBlock w b (.map QW YQ))/\LJ kv (nG k v l) QW YQ:=by
  rcases findNow_spec hk k es.toList l 0 h2.eq with ⟨a1,a2⟩ | ⟨j,v0,a1,a2,hj,⟨x0,Ug,rfl⟩,qH⟩
  ·have hf:(Instr.findKey kt (kv k) es.toList).run P w=.ok none w:=by
    simp [Instr.findKey,aY H6.eq,a2]
   refine ⟨es.push { key:=kv k,val:=v,born:=ck },ck+1,?_,?_⟩
   ·simp [execOp,hx a ba.du,hy a ba.du,hv a ba.du,Instr.mapUpdate,aY hu.eq,hg,uG,hf,Be]
   ·refine ⟨?_,?_,?_⟩
    ·rw [zY a1];simp [h2.eq]
    ·simp only [Array.toList_push,Zv,Z3,Zf];refine ZG.2 ⟨h2.nd,by simp,fun x hx y hy e=>?_⟩;obtain ⟨z,hz,rfl⟩:=Zx.1 hx;have:=h2.lt z hz;simp at hy;omega
    ·intro x hx;rw [Array.toList_push,Zz] at hx;rcases hx with hx | hx
     ·have:=h2.lt x hx;omega
     ·simp at hx;subst hx;show ck<ck+1;omega
  ·have hf:(Instr.findKey kt (kv x0) es.toList).run P w=.ok (some (0+j,v0)) w:=by
    simp [Instr.findKey,aY H6.eq,a2]
   have Bk:(es[j]?.map (·.key)).getD (kv x0)=kv x0:=by
    have h5:(es.toList.map (fun e=>(e.key,e.val)))[j]? = some (kv x0,v0):=by rw [h2.eq];simp [Ug]
    rw [ZE] at h5;obtain ⟨e0,B1,Mz⟩:=Zal.1 h5;simp only [Prod.mk.injEq] at Mz;have:es[j]? = some e0:=by simpa using B1
    simp [this,Mz.1]
   have hks:(Instr.keyThatStays (kv x0) (kv x0)).run P w=.ok (kv x0) w:=by simp [Instr.keyThatStays,hk.bits]
   refine ⟨es.modify j fun e=>{ e with key:=kv x0,val:=v },ck,?_,?_⟩
   ·simp only [execOp,hx a ba.du,hy a ba.du,hv a ba.du,Instr.mapUpdate,Sem.run_bind,aY hu.eq,Result.andThen_ok,hg,uG,hf,ZD,Bk,hks,Be,Sem.run_pure]
   ·have Sk:((es.modify j fun e=>{ e with key:=kv x0,val:=v }).toList.map (·.born))=es.toList.map (·.born):=by
     rw [Array.toList_modify];apply Zat;intro q;rw [ZE,ZE,List.getElem?_modify];by_cases VY:j=q
     ·subst VY;cases es.toList[j]? <;> simp
     ·simp [VY]
    refine ⟨?_,by rw [Sk];exact h2.nd,fun x hx=>?_⟩
    rotate_left
    ·have:x.born∈es.toList.map (·.born):=by rw [<- Sk];exact Zx.2 ⟨x,hx,I⟩
     obtain ⟨y,hy,e⟩:=Zx.1 this;rw [<- e];exact h2.lt y hy
    rw [qH];rw [Array.toList_modify];apply Zat;intro q;rw [ZE,ZE,List.getElem?_modify,List.getElem?_set];have hq:(es.toList.map (fun e=>(e.key,e.val)))[q]? = (l.map (fun p=>(kv p.1,p.2)))[q]?:=by rw [h2.eq]
    rw [ZE,ZE] at hq;have hlen:es.toList.length=l.length:=by have:=congrArg List.length h2.eq;simpa using this
    by_cases VY:j=q
    ·subst VY;have IX:j<l.length:=by rw [<- hlen];exact hj
     have he:es.toList[j]? = some es.toList[j]:=Zc hj;rw [he,if_pos I,if_pos IX];simp
    ·rw [if_neg VY,<- hq];simp [VY]
 obtain ⟨QW,YQ,hr,dU⟩:=iH;refine nn I ⟨eA _ _ _ _ _,?_⟩;rw [Oper.semAt_eq _ _ _ (by simp),hr];refine kk _ _ (ba.heap ?_);have:=Mem.change (Bs:=[mp kv b (nG k v l)]) (w':=setBlock w b (.map QW YQ)) hm fun fp uD hf=>by
  obtain ⟨g1,g2,e1,N8,e2⟩:=hf;have B0:fp=[b]:=by rw [e1,show g2=[] from e2,N8.1];rfl
  subst B0;exact ⟨aJ.setBlock w b _,[b],by simp,⟨[b],[],I,⟨I,QW,YQ,mT aK,dU⟩,I⟩,fun q hq=>.inl hq⟩
 simpa using this
end
theorem LV:KeyLaw .string (fun s:ByteArray=>Value.string s) where
 same a b:=by
  simp only [Instr.sameNow];congr 1;rw [beq_toListBytes,vj]
 bits a:=by unfold Instr.sameBits;simp [beq_toListBytes]
 flat P t e w a h:=by unfold Instr.checkKey;simp [aY h]
end
end Go.SL
namespace Go.SL
open Go
def QV {ι:Type} (Φ:ι->Prop) (A:ι->List bd):bd where
 sat h fp:=∃ x,Φ x/\cr h (A x) fp
 loc:=fun ⟨x,hx,hs⟩ hb=>⟨x,hx,hs.loc hb⟩
 own:=fun ⟨_,_,hs⟩ b hb=>hs.own b hb
section
variable {P:Program} {r:Option Nat} {c:Cx} {D:List Nat} {sl:aL} {hs hs':List bd} {Q:Exit->Act->World->Prop} {ι:Type}
variable {A:ι->List bd} {R:Ending->World->Prop} {f:FuncId} {l:Nat} {pd:Option Code} {post:Bool->bd} {rc:Loop} {s:LoopState}
theorem HB {tmps:Array Value} {FC body:Code} {w:World} (h:RoundIn (FR none) 0 P l f tmps FC body w R):RoundIn (FR r) 0 P l f tmps FC body w R:=h
variable {ops:Array Oper} {d:Nat} {ty:TypeId} {pos:String} {af:Array Edge} {rest:List Oper}
def gR (rc:Loop) (s:LoopState) (pd:Option Code):Obj:=.loop { rc with state:=s,pending:=pd }
def pW (md:List Nat) (w:World) (post:Bool->bd):Ending->World->Prop:=fun e W'=>∃ b,e=.returned (.bool b)/\aJ md w W'/\∃ mw:List Nat,mw.Nodup/\(post b).sat (hp W') mw/\∀ x∈mw,x∈md\/w.heap.size<=x
def FJ (P:Program) (l:Nat) (body:Code) (R:Ending->World->Prop):Act->World->Prop:=fun a₁ w₁=>∃ w₂,(Instr.beginRound l).run P w₁=.ok () w₂/\body.wpIn (FR (some l)) 0 P (roundPost P l R) a₁ w₂
theorem ns {body:Code} (ht:Take hs (bE l (gR rc .ready pd)) hs') (k:Tr c D sl (bE l (gR rc .busy pd)::hs') (WP P (some l) body (roundPost P l R))):Tr c D sl hs (FJ P l body R):=fun a w ba=>by
 have hm:=ba.mem.take (ht.append _);have hb:w.heap[l]? = some (gR rc .ready pd):=hm.bE .here;refine ⟨w.putObj l (gR rc .busy pd),run_beginRound (r:={ rc with state:=.ready,pending:=pd }) hb I,k a _ (ba.heap (Mem.store hm ⟨I,I,I,Zy _,by simp,fun k _ hn=>World.putObj_heap_other (by simpa using hn)⟩ (World.putObj_heap_same (kV (w:=w) hb))))⟩
theorem zj {pd jump:Option Code} (ht:Take hs (bE l (gR rc s pd)) hs') {hs2:List bd} (ht2:∀ w,Mem c (bE l (gR rc (if jump.isNone then .ready else .done) jump)::hs') w->∃ fp:List Nat,fp.Nodup/\(post jump.isNone).sat (hp w) fp/\∀ b∈fp,c.w0.heap.size<=b\/b∈c.md)
  {a:Act} {w:World} (ba:St c D sl hs a w):∃ v w',(Instr.endRound l jump).run P w=.ok v w'/\pW c.md c.w0 post (.returned v) w':=by
 have _:=hs2;have hm:=ba.mem.take (ht.append _);have hb:w.heap[l]? = some (gR rc s pd):=hm.bE .here;have hk:aJ [l] w (w.putObj l (gR rc (if jump.isNone then .ready else .done) jump)):=⟨I,I,I,Zy _,by simp,fun k _ hn=>World.putObj_heap_other (by simpa using hn)⟩
 have ni:=Mem.store hm hk (World.putObj_heap_same (kV (w:=w) hb));refine ⟨.bool jump.isNone,_,run_endRound (r:={ rc with state:=s,pending:=pd }) jump hb,jump.isNone,I,ni.keeps,?_⟩;obtain ⟨fp,h1,h2,h3⟩:=ht2 _ (by have:=ni;rw [<- Zb] at this;exact this.l8);exact ⟨fp,h1,h2,fun b hb=>(h3 b hb).symm⟩
theorem KP {Φ:ι->Prop} (x:ι) (hx:Φ x) {As rest:List bd} (ht:bB As (A x) rest) {w:World} (hm:Mem c As w):∃ fp:List Nat,fp.Nodup/\(QV Φ A).sat (hp w) fp/\∀ b∈fp,c.w0.heap.size<=b\/b∈c.md:=by
 obtain ⟨_,fp,hn,iZ,hb⟩:=hm.jj ht;obtain ⟨f1,f2,rfl,h1,_⟩:=cr.append_iff.1 iZ;exact ⟨f1,(ZG.1 hn).1,⟨x,hx,h1⟩,fun b dK=>hb b (ZF _ dK)⟩
theorem Ht {Φ:ι->Prop} (x:ι) {rest:List bd} (BZ:post true=QV Φ A) (ht:Take hs (bE l (gR rc s pd)) hs') (hx:Φ x) (h2:bB (bE l (gR rc .ready none)::hs') (A x) rest) :
  Tr c D sl hs (roundPost P l (pW c.md c.w0 post) .normal):=fun _ _ ba=>
 zj (jump:=none) (hs2:=[]) ht (fun w hm=>by show ∃ fp:List Nat,fp.Nodup/\(post true).sat (hp w) fp/\_;rw [BZ];exact KP x hx h2 hm) ba
theorem Hs {Φ:ι->Prop} (x:ι) {rest:List bd} (BZ:post false=QV Φ A) (ht:Take hs (bE l (gR rc s pd)) hs') (hx:Φ x) (h2:bB (bE l (gR rc .done (some .ret))::hs') (A x) rest) :
  Tr c D sl hs (roundPost P l (pW c.md c.w0 post) .ret):=fun _ _ ba=>
 zj (jump:=some .ret) (hs2:=[]) ht (fun w hm=>by show ∃ fp:List Nat,fp.Nodup/\(post false).sat (hp w) fp/\_;rw [BZ];exact KP x hx h2 hm) ba
def mV:List (Nat×Value)->aL->aL
 | [],sl=>sl
 | (t,v)::r,sl=>mV r ((t,v)::sl)
theorem zp {nt:Nat}:∀ (ps:List (Nat×Value)) (sl:aL) (tmps:Array Value),cg sl ⟨tmps,[]⟩->tmps.size=nt->(∀ p∈ps,p.1<nt) ->
  cg (mV ps sl) ⟨ps.foldl (fun t p=>t.setIfInBounds p.1 p.2) tmps,[]⟩/\(ps.foldl (fun (t:Array Value) p=>t.setIfInBounds p.1 p.2) tmps).size=nt
 | [],sl,tmps,h,hn,_=>⟨h,hn⟩
 | (t, v) :: ps, sl, tmps, h, hn, hp => by
  have h1:=h.put (d:=t) (by show t<tmps.size;rw [hn];exact hp (t,v) (by simp)) v;exact zp ps ((t,v)::sl) (tmps.setIfInBounds t v) h1 (by simpa using hn) (fun q hq=>hp q (by simp [hq]))
theorem Ar {g:Operand} {ps:Array Tmp} {FC body:Code} {first cap:List Value} (hg:Is sl g (.func (.func f) first.toArray cap.toArray)) [bW P f]
  {As:Nat->Loop->List bd} {rest:List bd} {Φ:Nat->Loop->ι->Prop} {own:Nat->Loop->ι->List bd} {st:ι->LoopState} {pd:ι->Option Code}
  (ht:∀ l rc,bB (bE l (gR rc .ready none)::hs) (As l rc) rest) (ba:∀ x,st x≠.busy)
  (hc:∀ l rc,rc.params=ps->rc.assign=FC->rc.body=body->cg sl ⟨rc.tmps,[]⟩->rc.tmps.size=c.nt->∀ w fp,Mem c (bE l (gR rc .ready none)::hs) w->fp.Nodup->cr (hp w) (As l rc) fp->(∀ b∈fp,c.w0.heap.size<=b\/b∈c.md) ->
   a8 P f (first++[Value.func (Fn.yield l) #[] #[]]++cap) w fp (Φ l rc) (fun _=>Value.tuple #[]) (fun x=>bE l (gR rc (st x) (pd x))::own l rc x))
  (kn:∀ l rc x b,Φ l rc x->pd x=none->Tr c (b::D) sl (own l rc x++rest) (Q .normal))
  (kj:∀ l rc x b j,Φ l rc x->pd x=some j->Tr c (b::D) sl (own l rc x++rest) (WP P none j Q)) :
  Tr c D sl hs (WP P none (.rangeFunc g ps FC body) Q):=fun a w hs0=>by
 refine wpIn_rangeFunc fun fn _=>?_
 let rc:Loop:={ state:=.ready,pending:=none,fn,tmps:=a.tmps,params:=ps,assign:=FC,body,defers:=w.heap.size }
 let l:=w.heap.size+1
 let w1:=(w.alloc (.deferred (some []))).alloc (.loop rc)
 have hrc:gR rc .ready none=.loop rc:=rfl
 -- DZ state behind DZ record
 have aT:Mem c (bE w.heap.size (.deferred (some []))::(hs++nB D)) (w.alloc (.deferred (some []))):=hs0.mem.alloc _;have ni:Mem c (bE l (gR rc .ready none)::bE w.heap.size (.deferred (some []))::(hs++nB D)) w1:=by
  have:=aT.alloc (.loop rc);simpa [l,w1,hrc] using this
 -- TI: DZ record and hs ahead,DZ new mark ae3 DZ marks
 have hm3:Mem c ((bE l (gR rc .ready none)::hs)++nB (w.heap.size::D)) w1:=by
  obtain ⟨k,fp,hn,⟨f1,f2,rfl,h1,⟨f3,f4,rfl,h3,h4⟩⟩,hb⟩:=ni;obtain ⟨f5,f6,rfl,h5,h6⟩:=cr.append_iff.1 h4;have jD:(f1++(f3++(f5++f6))).Perm ((f1++f5)++(f3++f6)):=by
   rw [Zh];refine List.Perm.append_left f1 ?_;rw [<- Zh,<- Zh];exact List.perm_append_comm.append_right f6
  refine ⟨k,(f1++f5)++(f3++f6),jD.nodup_iff.1 hn,cr.append_iff.2 ⟨f1++f5,f3++f6,I,⟨f1,f5,I,h1,h5⟩,⟨f3,f6,I,h3,h6⟩⟩,fun b dK=>hb b (jD.mem_iff.2 dK)⟩
 have htk:=ht l rc;obtain ⟨k4,fp,hn,iZ,hb⟩:=hm3.jj (htk.append (nB (w.heap.size::D)));obtain ⟨f1,f2,rfl,h1,h2⟩:=cr.append_iff.1 iZ;have cV:=hc l rc I I I hs0.du hs0.size w1 f1 hm3.l8 (ZG.1 hn).1 h1 (fun b dK=>hb b (ZF _ dK))
 refine ⟨l,[{ target:=.collected w.heap.size,args:=#[] }],w1,{ target:=.fn (.func f) cap.toArray,args:=first.toArray++#[.func (.yield l) #[] #[]] },w1,f,(first++[Value.func (Fn.yield l) #[] #[]]++cap).toArray,w1,run_enterLoop_outer fn a.tmps ps FC body,?_,fun _ _=>trivial,?_,by simp [FR,Fence.wide],?_⟩
 ·have:=hg a hs0.du;simp only [resolve,rangeCall,Deferred.ofValue,this,Sem.run_bind,Sem.run_pure,Result.andThen_ok];simp [Act.eval,l]
 ·simp only [invoke];rw [um];simp
 ·refine (jQ (r:=none) cV).mono fun e w' ⟨x,he,hx,hk,mw,uD,hs',zL⟩=>?_;subst he;obtain ⟨g1,g2,rfl,Qo,pE⟩:=hs';obtain ⟨rfl,hl⟩:=Qo;have Fb:w'.heap[l]? = some (gR rc (st x) (pd x)):=hl;refine ⟨pd x,w'.putObj l (gR rc .exhausted (pd x)),run_endLoop (r:={ rc with state:=st x,pending:=pd x }) Fb (ba x),?_⟩
  -- DZ state behind it all
  obtain ⟨n1,n2,n12⟩:=ZG.1 hn;have aK:∀ b∈f2,b<w1.heap.size:=fun b dK=>let ⟨o,ho⟩:=h2.own b dK;kV ho
  have hm5:Mem c (bE l (gR rc (st x) (pd x))::(own l rc x++(rest++nB (w.heap.size::D)))) w':=by
   refine ⟨?_,(([l]++g2)++f2),?_,?_,?_⟩
   ·refine ⟨hk.os.trans k4.os,hk.tape.trans k4.tape,hk.output.trans k4.output,ZQ k4.dr hk.dr,ZQ k4.size hk.size,fun b dK hm=>?_⟩;rw [<- k4.block b dK hm];refine hk.block b (ZaK dK k4.size) (fun hf=>?_);rcases hb b (ZF _ hf) with h | h
    ·omega
    ·exact hm h
   ·refine ZG.2 ⟨uD,n2,fun x hx y hy e=>?_⟩;subst e;rcases zL x hx with h | h
    ·exact n12 x h x hy I
    ·have:=aK x hy;omega
   ·rw [Zh];exact ⟨[l],g2++f2,I,⟨I,hl⟩,cr.append_iff.2 ⟨g2,f2,I,pE,h2.loc fun b dK=>hk.block b (aK b dK) (fun hf=>n12 b hf b dK I)⟩⟩
   ·intro b dK;rcases Zz.1 dK with h | h
    ·rcases zL b h with h | h
     ·exact hb b (ZF _ h)
     ·exact .inl (ZQ k4.size h)
    ·exact hb b (ZU _ h)
  have hm6:Mem c ((own l rc x++rest)++nB (w.heap.size::D)) (w'.putObj l (gR rc .exhausted (pd x))):=by
   have:=(Mem.store hm5 (w':=w'.putObj l (gR rc .exhausted (pd x))) ⟨I,I,I,Zy _,by simp,fun k _ hn=>World.putObj_heap_other (by simpa using hn)⟩ (World.putObj_heap_same (kV (w:=w') Fb))).xy
   rwa [Zh]
  have HZ:St c (w.heap.size::D) sl (own l rc x++rest) { a with defers:=[{ target:=.collected w.heap.size,args:=#[] }]++a.defers } (w'.putObj l (gR rc .exhausted (pd x))):=
   ⟨hm6,hs0.du,hs0.size,by simp [hs0.defers,mark]⟩
  cases hj:pd x with
  | none=>rw [hj] at HZ;exact kn l rc x w.heap.size hx hj _ _ HZ
  | some j=>rw [hj] at HZ;exact kj l rc x w.heap.size j hx hj _ _ HZ
end
end Go.SL
namespace Go.SL
open Go
section
variable {P:Program} {c:Cx} {sl:aL} {hs:List bd} {dst:Option Tmp} {ty:TypeId} {pos:String} {af:Array Edge} {g:Option (Nat×Bool)}
theorem BB {t e:TypeId} (hu:ja P t (.slice e)):P.elem t=e:=by simp [Program.elem,hu.eq]
theorem qk {t e:TypeId} (hu:ja P t (.slice e)):P.underlying t=some (.slice (P.elem t)):=by rw [BB hu];exact hu.eq
variable {a:Option Addr} {agg:Bool} {fz:Nat×Nat} {h:Int} {k:IntKind} {n:Nat} {v:Value} {w:World} {x y:Operand}
theorem value_of {i:Sem Value} (h:i.run P w=.ok v w):(do let x <- i;pure (Next.value x):Sem Next).run P w=.ok (.value v) w:=by
 rw [Sem.run_bind,h];rfl
theorem iU {t e:TypeId} {len cap:Nat} [hu:ja P t (.slice e)] [Ty P e agg n] (hx:Is sl x (.slice a len cap)) (hy:Is sl y (.int k h)) (h0:0<=h) (h1:h<=cap) :
  di P c sl hs ⟨dst,.slice t x none (some y) none,ty,pos,af,g⟩ (sliced a 0 h.toNat cap n):=
 ⟨by simp,fun ac w ha _=>by
  have:=run_slice_h (P:=P) w t a len cap (qk hu) k h h0 h1;simp only [execOp,hx ac ha,hy ac ha,Option.map];refine value_of ?_;rw [run_sliceAt_slice _ _ _ _ _ _ (qk hu),this,BB hu,gp (n:=n) (agg:=agg)]
  rfl⟩
theorem rb {t e:TypeId} {len cap:Nat} [hu:ja P t (.slice e)] [Ty P e agg n] (hx:Is sl x (.slice a len cap)) (hy:Is sl y (.int k h)) (h0:0<=h) (h1:h<=len) :
  di P c sl hs ⟨dst,.slice t x (some y) none none,ty,pos,af,g⟩ (sliced a h.toNat len cap n):=
 ⟨by simp,fun ac w ha _=>by
  have:=run_slice_l (P:=P) w t a len cap (qk hu) k h h0 h1;simp only [execOp,hx ac ha,hy ac ha,Option.map];refine value_of ?_;rw [run_sliceAt_slice _ _ _ _ _ _ (qk hu),this,BB hu,gp (n:=n) (agg:=agg)]
  rfl⟩
theorem bK {t:TypeId} {b o:Nat} {cs vs:List Value} {E:TypeId} {hs':List bd} [Ty P t true n] (hx:Is sl x (.pointer (some ⟨b,o,none⟩))) (ht:Take hs (SL.bE b (.cells cs.toArray E fz)) hs') (hv:eK cs o n=vs) (hl:vs.length=n) :
  di P c sl hs ⟨dst,.load t x,ty,pos,af,g⟩ (.agg vs.toArray):=jA hx (eZ.bE ht hv) hl
theorem bu {r:Option Nat} {D:List Nat} {ops:Array Oper} {Q:Exit->Act->World->Prop} {d:Nat} {rest:List Oper} {hs' hs2:List bd} {t e:TypeId} {size bytes:Nat} {z:Value} {n b o m cp:Nat} {xs news cs:List Value} {E:TypeId} [ja P t (.slice e)] [Ty P e agg size] [mn P e z] [u6 P e bytes]
  (hx:Is sl x v) (hy:Is sl y (.slice (some ⟨b,o,none⟩) m cp)) (ht:Take hs (row e size v n xs) hs') (ht2:Take hs (SL.bE b (.cells cs.toArray E fz)) hs2) (hv:eK cs o (m*size)=news) (hl:news.length=m*size) (h1:∀ u∈news,u.oneCell'=true) (hz:z.cells.size=size) (hsz:Nat.blt 0 size=true) (hb0:Nat.blt 0 bytes=true)
  (hb:(n+m)*bytes<=140737488355328) (hd:Nat.blt d c.nt=true)
  (k:∀ v',Tr c D ((d,v')::sl) (row e size v' (n+m) (xs++news)::hs') (WL P r ops Q rest)) :
  Tr c D sl hs (WL P r ops Q (⟨some d,.call ⟨.builtin .append,#[x,y],#[t,t]⟩,ty,pos,af,none⟩::rest)):=
 y8 hx hy ht (eZ.bE ht2 hv) hl h1 hz hsz hb0 hb hd k
theorem iK {fn:Func} {t:Tmp} {T:TypeId} {b o n:Nat} {cs vs:List Value} {E:TypeId} {hs':List bd} (h:fn.results=#[.cell t T]) (hT:Ty P T true n) (hp:db sl t=some (.pointer (some ⟨b,o,none⟩))) (ht:Take hs (SL.bE b (.cells cs.toArray E fz)) hs') (hv:eK cs o n=vs) (hl:vs.length=n):Ends P fn c sl hs (.agg vs.toArray):=
 QX h hp (eZ.bE ht hv) hl
theorem Tl {r:Option Nat} {D:List Nat} {ops:Array Oper} {Q:Exit->Act->World->Prop} {d:Option Tmp} {op:Op} {rest:List Oper} {j gs:Nat} {want:Bool} (hj:((ops[j]?).bind (·.dst))=some gs) (hq:db sl gs=some (.bool want))
  (k:Tr c D sl hs (WL P r ops Q (⟨d,op,ty,pos,af,none⟩::rest))):Tr c D sl hs (WL P r ops Q (⟨d,op,ty,pos,af,some (j,want)⟩::rest)):=fun a w ba=>by
 have h:=k a w ba;unfold WL at h ⊢;rw [if_pos (by simp [Region.wanted])] at h;rw [lN (o:=⟨d,op,ty,pos,af,some (j,want)⟩) (c0:=true) I hj ba.du (by rw [hq];rfl),if_pos (by simp)];exact h
theorem Rd.sliced {len cap sz:Nat} {xs:List (List Value)} (h:Rd w (.slice a len cap) sz xs) {l m:Nat} (hl:l<=m) (hm:m<=len):Rd w (Go.sliced a l m cap sz) sz ((xs.take m).drop l):=by
 obtain ⟨a',iz,b,o,e,h1,h2,h3,h4⟩:=h;cases e;have e:((xs.take m).drop l).length=m-l:=by simp;omega
 by_cases hc:cap=l
 ·refine ⟨a,cap-l,b,o,?_,by omega,by omega,fun hn=>?_,fun i r hr=>?_⟩
  ·simp [Go.sliced,hc,e]
  ·exact absurd (Z8 (by omega)) hn
  ·have:=(Zn.1 hr).1;omega
 ·refine ⟨a.map (·.add (l*sz)),cap-l,b,o+l*sz,?_,by omega,by omega,fun hn=>?_,fun i r hr=>?_⟩
  ·simp [Go.sliced,hc,e]
  ·have hx:xs≠[]:=by intro e;subst e;simp at hn
   rw [h3 hx];by_cases e0:l*sz=0
   ·simp [Addr.add,e0]
   ·simp [Addr.add,e0]
  ·rw [Zbi,ZP] at hr;split at hr
   ·obtain ⟨q1,q2⟩:=h4 _ _ hr;refine ⟨q1,fun j u hu=>?_⟩;have:=q2 j u hu;rw [show o+l*sz+i*sz+j=o+(l+i)*sz+j by rw [Nat.add_mul];omega];exact this
   ·simp at hr
end
end Go.SL
namespace Go.Proofs
open Go Go.SL
open Tryz renaming prog->T_
instance:VI T_:=⟨by kernel_rfl⟩
instance:Ty T_ 3 false 1:=⟨by kernel_rfl⟩
instance:ja T_ 3 (.int .i64):=⟨by kernel_rfl⟩
instance:mn T_ 3 (.q 0):=⟨by kernel_rfl⟩
instance:u6 T_ 3 8:=⟨by kernel_rfl⟩
instance:Ty T_ 4 false 1:=⟨by kernel_rfl⟩
instance:ja T_ 4 (.bool):=⟨by kernel_rfl⟩
instance:mn T_ 4 (.bool false):=⟨by kernel_rfl⟩
instance:u6 T_ 4 1:=⟨by kernel_rfl⟩
instance:Ty T_ 9 false 1:=⟨by kernel_rfl⟩
instance:ja T_ 9 (.string):=⟨by kernel_rfl⟩
instance:mn T_ 9 (.string ⟨#[]⟩):=⟨by kernel_rfl⟩
instance:u6 T_ 9 16:=⟨by kernel_rfl⟩
instance:Ty T_ 22 false 1:=⟨by kernel_rfl⟩
instance:ja T_ 22 (.slice 118):=⟨by kernel_rfl⟩
instance:Ty T_ 23 false 1:=⟨by kernel_rfl⟩
instance:ja T_ 23 (.slice 88):=⟨by kernel_rfl⟩
instance:Ty T_ 24 false 1:=⟨by kernel_rfl⟩
instance:ja T_ 24 (.slice 122):=⟨by kernel_rfl⟩
instance:Ty T_ 25 false 1:=⟨by kernel_rfl⟩
instance:ja T_ 25 (.slice 180):=⟨by kernel_rfl⟩
instance:Ty T_ 27 true 6:=⟨by kernel_rfl⟩
instance:mn T_ 27 (.agg #[.q 0,.q 0,.z,.z,.z,.z]):=⟨by kernel_rfl⟩
instance:DX T_ 27 [(0,1),(1,1),(2,1),(3,1),(4,1),(5,1)] [.q 0,.q 0,.z,.z,.z,.z]:=⟨by kernel_rfl⟩
instance:eQ T_ 27 0 0:=⟨by kernel_rfl⟩
instance:eQ T_ 27 1 1:=⟨by kernel_rfl⟩
instance:eQ T_ 27 2 2:=⟨by kernel_rfl⟩
instance:eQ T_ 27 3 3:=⟨by kernel_rfl⟩
instance:eQ T_ 27 4 4:=⟨by kernel_rfl⟩
instance:eQ T_ 27 5 5:=⟨by kernel_rfl⟩
instance:Ty T_ 29 true 3:=⟨by kernel_rfl⟩
instance:eQ T_ 29 0 0:=⟨by kernel_rfl⟩
instance:eQ T_ 29 1 1:=⟨by kernel_rfl⟩
instance:eQ T_ 29 2 2:=⟨by kernel_rfl⟩
instance:Ty T_ 32 false 1:=⟨by kernel_rfl⟩
instance:ja T_ 32 (.slice 9):=⟨by kernel_rfl⟩
instance:mn T_ 32 (.z):=⟨by kernel_rfl⟩
instance:u6 T_ 32 24:=⟨by kernel_rfl⟩
instance:Ty T_ 33 false 1:=⟨by kernel_rfl⟩
instance:mn T_ 33 (.q 0):=⟨by kernel_rfl⟩
instance:Ty T_ 36 false 1:=⟨by kernel_rfl⟩
instance:ja T_ 36 (.slice 186):=⟨by kernel_rfl⟩
instance:Ty T_ 37 false 1:=⟨by kernel_rfl⟩
instance:ja T_ 37 (.slice 90):=⟨by kernel_rfl⟩
instance:Ty T_ 38 false 1:=⟨by kernel_rfl⟩
instance:ja T_ 38 (.slice 187):=⟨by kernel_rfl⟩
instance:Ty T_ 39 false 1:=⟨by kernel_rfl⟩
instance:ja T_ 39 (.slice 188):=⟨by kernel_rfl⟩
instance:Ty T_ 41 true 6:=⟨by kernel_rfl⟩
instance:mn T_ 41 (.agg #[.q 0,.q 0,.z,.z,.z,.z]):=⟨by kernel_rfl⟩
instance:DX T_ 41 [(0,1),(1,1),(2,1),(3,1),(4,1),(5,1)] [.q 0,.q 0,.z,.z,.z,.z]:=⟨by kernel_rfl⟩
instance:eQ T_ 41 0 0:=⟨by kernel_rfl⟩
instance:eQ T_ 41 1 1:=⟨by kernel_rfl⟩
instance:eQ T_ 41 2 2:=⟨by kernel_rfl⟩
instance:eQ T_ 41 3 3:=⟨by kernel_rfl⟩
instance:eQ T_ 41 4 4:=⟨by kernel_rfl⟩
instance:eQ T_ 41 5 5:=⟨by kernel_rfl⟩
instance:Ty T_ 49 false 1:=⟨by kernel_rfl⟩
instance:ja T_ 49 (.slice 3):=⟨by kernel_rfl⟩
instance:mn T_ 49 (.z):=⟨by kernel_rfl⟩
instance:Ty T_ 66 false 1:=⟨by kernel_rfl⟩
instance:ja T_ 66 (.slice 69):=⟨by kernel_rfl⟩
instance:Ty T_ 69 true 2:=⟨by kernel_rfl⟩
instance:mn T_ 69 (.agg #[.string ⟨#[]⟩,.z]):=⟨by kernel_rfl⟩
instance:u6 T_ 69 40:=⟨by kernel_rfl⟩
instance:DX T_ 69 [(0,1),(1,1)] [.string ⟨#[]⟩,.z]:=⟨by kernel_rfl⟩
instance:eQ T_ 69 0 0:=⟨by kernel_rfl⟩
instance:eQ T_ 69 1 1:=⟨by kernel_rfl⟩
instance:Ty T_ 72 false 1:=⟨by kernel_rfl⟩
instance:ja T_ 72 (.slice 78):=⟨by kernel_rfl⟩
instance:Ty T_ 78 true 2:=⟨by kernel_rfl⟩
instance:mn T_ 78 (.agg #[.string ⟨#[]⟩,.z]):=⟨by kernel_rfl⟩
instance:u6 T_ 78 40:=⟨by kernel_rfl⟩
instance:DX T_ 78 [(0,1),(1,1)] [.string ⟨#[]⟩,.z]:=⟨by kernel_rfl⟩
instance:eQ T_ 78 0 0:=⟨by kernel_rfl⟩
instance:eQ T_ 78 1 1:=⟨by kernel_rfl⟩
instance:Ty T_ 88 true 3:=⟨by kernel_rfl⟩
instance:mn T_ 88 (.agg #[.string ⟨#[]⟩,.q 0,.bool false]):=⟨by kernel_rfl⟩
instance:u6 T_ 88 32:=⟨by kernel_rfl⟩
instance:eQ T_ 88 0 0:=⟨by kernel_rfl⟩
instance:eQ T_ 88 1 1:=⟨by kernel_rfl⟩
instance:eQ T_ 88 2 2:=⟨by kernel_rfl⟩
instance:Ty T_ 90 true 3:=⟨by kernel_rfl⟩
instance:mn T_ 90 (.agg #[.string ⟨#[]⟩,.q 0,.bool false]):=⟨by kernel_rfl⟩
instance:u6 T_ 90 32:=⟨by kernel_rfl⟩
instance:DX T_ 90 [(0,1),(1,1),(2,1)] [.string ⟨#[]⟩,.q 0,.bool false]:=⟨by kernel_rfl⟩
instance:eQ T_ 90 0 0:=⟨by kernel_rfl⟩
instance:eQ T_ 90 1 1:=⟨by kernel_rfl⟩
instance:eQ T_ 90 2 2:=⟨by kernel_rfl⟩
instance:ja T_ 93 (.slice 105):=⟨by kernel_rfl⟩
instance:ja T_ 96 (.slice 182):=⟨by kernel_rfl⟩
instance:Ty T_ 105 true 2:=⟨by kernel_rfl⟩
instance:mn T_ 105 (.agg #[.q 0,.z]):=⟨by kernel_rfl⟩
instance:u6 T_ 105 32:=⟨by kernel_rfl⟩
instance:eQ T_ 105 0 0:=⟨by kernel_rfl⟩
instance:eQ T_ 105 1 1:=⟨by kernel_rfl⟩
instance:Ty T_ 118 true 2:=⟨by kernel_rfl⟩
instance:mn T_ 118 (.agg #[.string ⟨#[]⟩,.q 0]):=⟨by kernel_rfl⟩
instance:u6 T_ 118 24:=⟨by kernel_rfl⟩
instance:eQ T_ 118 0 0:=⟨by kernel_rfl⟩
instance:eQ T_ 118 1 1:=⟨by kernel_rfl⟩
instance:Ty T_ 122 true 3:=⟨by kernel_rfl⟩
instance:mn T_ 122 (.agg #[.string ⟨#[]⟩,.q 0,.q 0]):=⟨by kernel_rfl⟩
instance:u6 T_ 122 32:=⟨by kernel_rfl⟩
instance:eQ T_ 122 0 0:=⟨by kernel_rfl⟩
instance:eQ T_ 122 1 1:=⟨by kernel_rfl⟩
instance:eQ T_ 122 2 2:=⟨by kernel_rfl⟩
instance:ja T_ 156 (.slice 32):=⟨by kernel_rfl⟩
instance:Ty T_ 180 true 3:=⟨by kernel_rfl⟩
instance:mn T_ 180 (.agg #[.q 0,.string ⟨#[]⟩,.string ⟨#[]⟩]):=⟨by kernel_rfl⟩
instance:u6 T_ 180 40:=⟨by kernel_rfl⟩
instance:DX T_ 180 [(0,1),(1,1),(2,1)] [.q 0,.string ⟨#[]⟩,.string ⟨#[]⟩]:=⟨by kernel_rfl⟩
instance:eQ T_ 180 0 0:=⟨by kernel_rfl⟩
instance:eQ T_ 180 1 1:=⟨by kernel_rfl⟩
instance:eQ T_ 180 2 2:=⟨by kernel_rfl⟩
instance:Ty T_ 182 true 2:=⟨by kernel_rfl⟩
instance:mn T_ 182 (.agg #[.q 0,.z]):=⟨by kernel_rfl⟩
instance:u6 T_ 182 32:=⟨by kernel_rfl⟩
instance:DX T_ 182 [(0,1),(1,1)] [.q 0,.z]:=⟨by kernel_rfl⟩
instance:eQ T_ 182 0 0:=⟨by kernel_rfl⟩
instance:eQ T_ 182 1 1:=⟨by kernel_rfl⟩
instance:Ty T_ 186 true 2:=⟨by kernel_rfl⟩
instance:mn T_ 186 (.agg #[.string ⟨#[]⟩,.q 0]):=⟨by kernel_rfl⟩
instance:u6 T_ 186 24:=⟨by kernel_rfl⟩
instance:DX T_ 186 [(0,1),(1,1)] [.string ⟨#[]⟩,.q 0]:=⟨by kernel_rfl⟩
instance:eQ T_ 186 0 0:=⟨by kernel_rfl⟩
instance:eQ T_ 186 1 1:=⟨by kernel_rfl⟩
instance:Ty T_ 187 true 3:=⟨by kernel_rfl⟩
instance:mn T_ 187 (.agg #[.string ⟨#[]⟩,.q 0,.q 0]):=⟨by kernel_rfl⟩
instance:u6 T_ 187 32:=⟨by kernel_rfl⟩
instance:DX T_ 187 [(0,1),(1,1),(2,1)] [.string ⟨#[]⟩,.q 0,.q 0]:=⟨by kernel_rfl⟩
instance:eQ T_ 187 0 0:=⟨by kernel_rfl⟩
instance:eQ T_ 187 1 1:=⟨by kernel_rfl⟩
instance:eQ T_ 187 2 2:=⟨by kernel_rfl⟩
instance:Ty T_ 188 true 3:=⟨by kernel_rfl⟩
instance:mn T_ 188 (.agg #[.q 0,.string ⟨#[]⟩,.string ⟨#[]⟩]):=⟨by kernel_rfl⟩
instance:u6 T_ 188 40:=⟨by kernel_rfl⟩
instance:DX T_ 188 [(0,1),(1,1),(2,1)] [.q 0,.string ⟨#[]⟩,.string ⟨#[]⟩]:=⟨by kernel_rfl⟩
instance:eQ T_ 188 0 0:=⟨by kernel_rfl⟩
instance:eQ T_ 188 1 1:=⟨by kernel_rfl⟩
instance:eQ T_ 188 2 2:=⟨by kernel_rfl⟩
instance:Ty T_ 199 false 1:=⟨by kernel_rfl⟩
instance:Ty T_ 220 false 1:=⟨by kernel_rfl⟩
instance:mn T_ 220 (.nilFunc):=⟨by kernel_rfl⟩
instance:ja T_ 232 (.slice 4):=⟨by kernel_rfl⟩
instance:Ty T_ 244 true 2:=⟨by kernel_rfl⟩
instance:mn T_ 244 (.agg #[.z,.q 0]):=⟨by kernel_rfl⟩
instance:u6 T_ 244 32:=⟨by kernel_rfl⟩
instance:DX T_ 244 [(0,1),(1,1)] [.z,.q 0]:=⟨by kernel_rfl⟩
instance:eQ T_ 244 0 0:=⟨by kernel_rfl⟩
instance:eQ T_ 244 1 1:=⟨by kernel_rfl⟩
instance:Ty T_ 254 false 1:=⟨by kernel_rfl⟩
instance:ja T_ 254 (.map 9 257):=⟨by kernel_rfl⟩
instance:mn T_ 254 (.map none):=⟨by kernel_rfl⟩
instance:Ty T_ 257 true 3:=⟨by kernel_rfl⟩
instance:mn T_ 257 (.agg #[.q 0,.q 0,.q 0]):=⟨by kernel_rfl⟩
instance:DX T_ 257 [(0,1),(1,1),(2,1)] [.q 0,.q 0,.q 0]:=⟨by kernel_rfl⟩
instance:eQ T_ 257 0 0:=⟨by kernel_rfl⟩
instance:FTy T_ 257 0 0 3:=⟨by kernel_rfl⟩
instance:eQ T_ 257 1 1:=⟨by kernel_rfl⟩
instance:eQ T_ 257 2 2:=⟨by kernel_rfl⟩
instance:Ty T_ 264 true 2:=⟨by kernel_rfl⟩
instance:DX T_ 264 [(0,1),(1,1)] [.string ⟨#[]⟩,.nilFunc]:=⟨by kernel_rfl⟩
instance:eQ T_ 264 0 0:=⟨by kernel_rfl⟩
instance:Ty T_ 265 true 10:=⟨by kernel_rfl⟩
instance:ja T_ 265 (.array 5 264):=⟨by kernel_rfl⟩
instance:mn T_ 265 (.agg #[.string ⟨#[]⟩,.nilFunc,.string ⟨#[]⟩,.nilFunc,.string ⟨#[]⟩,.nilFunc,.string ⟨#[]⟩,.nilFunc,.string ⟨#[]⟩,.nilFunc]):=⟨by kernel_rfl⟩
instance:DX T_ 265 [(0,2),(2,2),(4,2),(6,2),(8,2)] [.string ⟨#[]⟩,.nilFunc,.string ⟨#[]⟩,.nilFunc,.string ⟨#[]⟩,.nilFunc,.string ⟨#[]⟩,.nilFunc,.string ⟨#[]⟩,.nilFunc]:=⟨by kernel_rfl⟩
instance:ja T_ 287 (.slice 33):=⟨by kernel_rfl⟩
instance:Ty T_ 299 true 2:=⟨by kernel_rfl⟩
instance:ja T_ 299 (.array 2 3):=⟨by kernel_rfl⟩
instance:mn T_ 299 (.agg #[.q 0,.q 0]):=⟨by kernel_rfl⟩
instance:DX T_ 299 [(0,1),(1,1)] [.q 0,.q 0]:=⟨by kernel_rfl⟩
instance:Ty T_ 329 false 1:=⟨by kernel_rfl⟩
instance:ja T_ 329 (.slice 244):=⟨by kernel_rfl⟩
instance:mn T_ 329 (.z):=⟨by kernel_rfl⟩
instance:BW T_ 88 [9,3,4]:=⟨by kernel_rfl,by kernel_rfl,by kernel_rfl⟩
instance:BW T_ 118 [9,3]:=⟨by kernel_rfl,by kernel_rfl,by kernel_rfl⟩
instance:BW T_ 122 [9,3,3]:=⟨by kernel_rfl,by kernel_rfl,by kernel_rfl⟩
instance:BW T_ 180 [3,9,9]:=⟨by kernel_rfl,by kernel_rfl,by kernel_rfl⟩
instance:BW T_ 188 [3,9,9]:=⟨by kernel_rfl,by kernel_rfl,by kernel_rfl⟩
instance:BW T_ 299 [3,3]:=⟨by kernel_rfl,by kernel_rfl,by kernel_rfl⟩
instance:bW T_ 17:=⟨by kernel_rfl⟩
instance:bW T_ 18:=⟨by kernel_rfl⟩
instance:bW T_ 19:=⟨by kernel_rfl⟩
instance:bW T_ 20:=⟨by kernel_rfl⟩
instance:bW T_ 21:=⟨by kernel_rfl⟩
instance:bW T_ 22:=⟨by kernel_rfl⟩
instance:bW T_ 23:=⟨by kernel_rfl⟩
instance:bW T_ 24:=⟨by kernel_rfl⟩
instance:bW T_ 25:=⟨by kernel_rfl⟩
instance:bW T_ 26:=⟨by kernel_rfl⟩
instance:bW T_ 27:=⟨by kernel_rfl⟩
instance:bW T_ 28:=⟨by kernel_rfl⟩
instance:bW T_ 29:=⟨by kernel_rfl⟩
instance:bW T_ 30:=⟨by kernel_rfl⟩
instance:bW T_ 31:=⟨by kernel_rfl⟩
instance:bW T_ 32:=⟨by kernel_rfl⟩
instance:bW T_ 33:=⟨by kernel_rfl⟩
instance:bW T_ 34:=⟨by kernel_rfl⟩
instance:bW T_ 35:=⟨by kernel_rfl⟩
instance:bW T_ 36:=⟨by kernel_rfl⟩
instance:bW T_ 37:=⟨by kernel_rfl⟩
instance:bW T_ 38:=⟨by kernel_rfl⟩
instance:bW T_ 39:=⟨by kernel_rfl⟩
instance:bW T_ 40:=⟨by kernel_rfl⟩
instance:bW T_ 41:=⟨by kernel_rfl⟩
instance:bW T_ 42:=⟨by kernel_rfl⟩
instance:bW T_ 43:=⟨by kernel_rfl⟩
instance:bW T_ 44:=⟨by kernel_rfl⟩
instance:bW T_ 45:=⟨by kernel_rfl⟩
instance:bW T_ 46:=⟨by kernel_rfl⟩
instance:bW T_ 47:=⟨by kernel_rfl⟩
instance:bW T_ 48:=⟨by kernel_rfl⟩
instance:bW T_ 49:=⟨by kernel_rfl⟩
instance:bW T_ 50:=⟨by kernel_rfl⟩
instance:bW T_ 51:=⟨by kernel_rfl⟩
instance:bW T_ 52:=⟨by kernel_rfl⟩
instance:bW T_ 53:=⟨by kernel_rfl⟩
instance:bW T_ 54:=⟨by kernel_rfl⟩
instance:bW T_ 55:=⟨by kernel_rfl⟩
instance:bW T_ 56:=⟨by kernel_rfl⟩
instance:bW T_ 57:=⟨by kernel_rfl⟩
instance:bW T_ 58:=⟨by kernel_rfl⟩
instance:bW T_ 59:=⟨by kernel_rfl⟩
instance:bW T_ 60:=⟨by kernel_rfl⟩
instance:bW T_ 61:=⟨by kernel_rfl⟩
instance:bW T_ 62:=⟨by kernel_rfl⟩
instance:bW T_ 63:=⟨by kernel_rfl⟩
instance:bW T_ 64:=⟨by kernel_rfl⟩
instance:bW T_ 65:=⟨by kernel_rfl⟩
instance:bW T_ 66:=⟨by kernel_rfl⟩
instance:bW T_ 67:=⟨by kernel_rfl⟩
instance:bW T_ 68:=⟨by kernel_rfl⟩
instance:bW T_ 69:=⟨by kernel_rfl⟩
instance:bW T_ 70:=⟨by kernel_rfl⟩
instance:bW T_ 71:=⟨by kernel_rfl⟩
instance:bW T_ 72:=⟨by kernel_rfl⟩
instance:bW T_ 73:=⟨by kernel_rfl⟩
instance:bW T_ 74:=⟨by kernel_rfl⟩
instance:bW T_ 75:=⟨by kernel_rfl⟩
instance:bW T_ 76:=⟨by kernel_rfl⟩
instance:bW T_ 77:=⟨by kernel_rfl⟩
instance:bW T_ 78:=⟨by kernel_rfl⟩
instance:bW T_ 84:=⟨by kernel_rfl⟩
instance:bW T_ 85:=⟨by kernel_rfl⟩
instance:bW T_ 105:=⟨by kernel_rfl⟩
instance:bW T_ 106:=⟨by kernel_rfl⟩
instance:bW T_ 107:=⟨by kernel_rfl⟩
instance:bW T_ 108:=⟨by kernel_rfl⟩
instance:bW T_ 109:=⟨by kernel_rfl⟩
instance:bW T_ 110:=⟨by kernel_rfl⟩
instance:bW T_ 111:=⟨by kernel_rfl⟩
instance:bW T_ 112:=⟨by kernel_rfl⟩
instance:bW T_ 113:=⟨by kernel_rfl⟩
instance:bW T_ 114:=⟨by kernel_rfl⟩
instance:bW T_ 115:=⟨by kernel_rfl⟩
instance:bW T_ 116:=⟨by kernel_rfl⟩
instance:bW T_ 117:=⟨by kernel_rfl⟩
instance:bW T_ 118:=⟨by kernel_rfl⟩
instance:bW T_ 119:=⟨by kernel_rfl⟩
instance:bW T_ 120:=⟨by kernel_rfl⟩
instance:bW T_ 121:=⟨by kernel_rfl⟩
instance:bW T_ 122:=⟨by kernel_rfl⟩
instance:bW T_ 123:=⟨by kernel_rfl⟩
instance:bW T_ 124:=⟨by kernel_rfl⟩
instance:bW T_ 125:=⟨by kernel_rfl⟩
instance:bW T_ 126:=⟨by kernel_rfl⟩
instance:bW T_ 127:=⟨by kernel_rfl⟩
instance:bW T_ 128:=⟨by kernel_rfl⟩
instance:bW T_ 129:=⟨by kernel_rfl⟩
instance:bW T_ 130:=⟨by kernel_rfl⟩
instance:bW T_ 131:=⟨by kernel_rfl⟩
instance:bW T_ 132:=⟨by kernel_rfl⟩
instance:bW T_ 133:=⟨by kernel_rfl⟩
instance:bW T_ 134:=⟨by kernel_rfl⟩
instance:bW T_ 135:=⟨by kernel_rfl⟩
instance:bW T_ 136:=⟨by kernel_rfl⟩
instance:bW T_ 137:=⟨by kernel_rfl⟩
instance:bW T_ 138:=⟨by kernel_rfl⟩
instance:bW T_ 139:=⟨by kernel_rfl⟩
instance:bW T_ 140:=⟨by kernel_rfl⟩
instance:bW T_ 141:=⟨by kernel_rfl⟩
instance:bW T_ 142:=⟨by kernel_rfl⟩
instance:bW T_ 143:=⟨by kernel_rfl⟩
instance:bW T_ 144:=⟨by kernel_rfl⟩
instance:bW T_ 145:=⟨by kernel_rfl⟩
instance:bW T_ 146:=⟨by kernel_rfl⟩
instance:bW T_ 147:=⟨by kernel_rfl⟩
instance:bW T_ 148:=⟨by kernel_rfl⟩
instance:bW T_ 149:=⟨by kernel_rfl⟩
instance:bW T_ 150:=⟨by kernel_rfl⟩
instance:bW T_ 151:=⟨by kernel_rfl⟩
instance:bW T_ 152:=⟨by kernel_rfl⟩
instance:bW T_ 153:=⟨by kernel_rfl⟩
instance:bW T_ 154:=⟨by kernel_rfl⟩
instance:bW T_ 155:=⟨by kernel_rfl⟩
instance:bW T_ 156:=⟨by kernel_rfl⟩
instance:bW T_ 157:=⟨by kernel_rfl⟩
instance:bW T_ 158:=⟨by kernel_rfl⟩
instance:bW T_ 159:=⟨by kernel_rfl⟩
instance:bW T_ 160:=⟨by kernel_rfl⟩
instance:bW T_ 161:=⟨by kernel_rfl⟩
instance:bW T_ 162:=⟨by kernel_rfl⟩
instance:bW T_ 163:=⟨by kernel_rfl⟩
instance:bW T_ 164:=⟨by kernel_rfl⟩
instance:bW T_ 165:=⟨by kernel_rfl⟩
instance:bW T_ 166:=⟨by kernel_rfl⟩
instance:bW T_ 167:=⟨by kernel_rfl⟩
instance:bW T_ 168:=⟨by kernel_rfl⟩
instance:bW T_ 169:=⟨by kernel_rfl⟩
instance:bW T_ 170:=⟨by kernel_rfl⟩
instance:bW T_ 171:=⟨by kernel_rfl⟩
instance:bW T_ 172:=⟨by kernel_rfl⟩
instance:bW T_ 173:=⟨by kernel_rfl⟩
instance:bW T_ 174:=⟨by kernel_rfl⟩
instance:bW T_ 175:=⟨by kernel_rfl⟩
instance:bW T_ 176:=⟨by kernel_rfl⟩
instance:bW T_ 177:=⟨by kernel_rfl⟩
instance:bW T_ 178:=⟨by kernel_rfl⟩
instance:bW T_ 179:=⟨by kernel_rfl⟩
instance:bW T_ 180:=⟨by kernel_rfl⟩
instance:bW T_ 181:=⟨by kernel_rfl⟩
instance:bW T_ 182:=⟨by kernel_rfl⟩
instance:bW T_ 183:=⟨by kernel_rfl⟩
instance:bW T_ 184:=⟨by kernel_rfl⟩
instance:bW T_ 186:=⟨by kernel_rfl⟩
instance:bW T_ 187:=⟨by kernel_rfl⟩
instance:bW T_ 189:=⟨by kernel_rfl⟩
instance:bW T_ 191:=⟨by kernel_rfl⟩
instance:bW T_ 192:=⟨by kernel_rfl⟩
instance:bW T_ 193:=⟨by kernel_rfl⟩
instance:bW T_ 221:=⟨by kernel_rfl⟩
instance:bW T_ 222:=⟨by kernel_rfl⟩
instance:bW T_ 223:=⟨by kernel_rfl⟩
instance:bW T_ 224:=⟨by kernel_rfl⟩
instance:bW T_ 225:=⟨by kernel_rfl⟩
instance:bW T_ 226:=⟨by kernel_rfl⟩
instance:bW T_ 227:=⟨by kernel_rfl⟩
instance:bW T_ 228:=⟨by kernel_rfl⟩
instance:bW T_ 229:=⟨by kernel_rfl⟩
instance:bW T_ 230:=⟨by kernel_rfl⟩
instance:bW T_ 231:=⟨by kernel_rfl⟩
instance:bW T_ 232:=⟨by kernel_rfl⟩
instance:bW T_ 233:=⟨by kernel_rfl⟩
instance:bW T_ 234:=⟨by kernel_rfl⟩
instance:bW T_ 235:=⟨by kernel_rfl⟩
instance:bW T_ 236:=⟨by kernel_rfl⟩
instance:bW T_ 237:=⟨by kernel_rfl⟩
instance:bW T_ 238:=⟨by kernel_rfl⟩
instance:bW T_ 239:=⟨by kernel_rfl⟩
instance:bW T_ 240:=⟨by kernel_rfl⟩
instance:bW T_ 241:=⟨by kernel_rfl⟩
instance:bW T_ 242:=⟨by kernel_rfl⟩
instance:bW T_ 243:=⟨by kernel_rfl⟩
instance:bW T_ 246:=⟨by kernel_rfl⟩
instance:bW T_ 247:=⟨by kernel_rfl⟩
instance:bW T_ 248:=⟨by kernel_rfl⟩
instance:bW T_ 249:=⟨by kernel_rfl⟩
instance:bW T_ 250:=⟨by kernel_rfl⟩
instance:bW T_ 251:=⟨by kernel_rfl⟩
instance:bW T_ 252:=⟨by kernel_rfl⟩
instance:bW T_ 253:=⟨by kernel_rfl⟩
instance:bW T_ 254:=⟨by kernel_rfl⟩
instance:bW T_ 255:=⟨by kernel_rfl⟩
instance:bW T_ 256:=⟨by kernel_rfl⟩
instance:bW T_ 257:=⟨by kernel_rfl⟩
instance:bW T_ 258:=⟨by kernel_rfl⟩
instance:bW T_ 259:=⟨by kernel_rfl⟩
instance:bW T_ 260:=⟨by kernel_rfl⟩
instance:bW T_ 262:=⟨by kernel_rfl⟩
instance:bW T_ 263:=⟨by kernel_rfl⟩
instance:bW T_ 264:=⟨by kernel_rfl⟩
instance:bW T_ 265:=⟨by kernel_rfl⟩
instance:bW T_ 266:=⟨by kernel_rfl⟩
instance:bW T_ 267:=⟨by kernel_rfl⟩
instance:bW T_ 268:=⟨by kernel_rfl⟩
instance:bW T_ 270:=⟨by kernel_rfl⟩
instance:bW T_ 278:=⟨by kernel_rfl⟩
instance:bW T_ 279:=⟨by kernel_rfl⟩
instance:bW T_ 297:=⟨by kernel_rfl⟩
instance:bW T_ 298:=⟨by kernel_rfl⟩
instance:bW T_ 299:=⟨by kernel_rfl⟩
instance:bW T_ 300:=⟨by kernel_rfl⟩
instance:bW T_ 301:=⟨by kernel_rfl⟩
instance:bW T_ 302:=⟨by kernel_rfl⟩
instance:bW T_ 314:=⟨by kernel_rfl⟩
instance:bW T_ 315:=⟨by kernel_rfl⟩
instance:bW T_ 316:=⟨by kernel_rfl⟩
instance:bW T_ 317:=⟨by kernel_rfl⟩
instance:bW T_ 319:=⟨by kernel_rfl⟩
instance:bW T_ 323:=⟨by kernel_rfl⟩
instance:bW T_ 324:=⟨by kernel_rfl⟩
instance:bW T_ 342:=⟨by kernel_rfl⟩
end Go.Proofs
namespace Go.SL
open Go
theorem aJ.over {md fp:List Nat} {a b c:World} (h:aJ md a b) (hf:∀ x∈fp,x∈md\/a.heap.size<=x) (k:aJ fp b c):aJ md a c:=
 ⟨k.os.trans h.os,k.tape.trans h.tape,k.output.trans h.output,ZQ h.dr k.dr,ZQ h.size k.size,fun i hi hm=>by
  rw [<- h.block i hi hm];exact k.block i (ZaK hi h.size) (fun hx=>by
   rcases hf i hx with h1 | h1
   ·exact hm h1
   ·omega)⟩
def Out (md:List Nat) (v:Value) (xs:List (List Value)):Prop:=xs≠[]->∀ b,v.ownBlock=some b->b ∉ md
theorem Out.nil (v:Value) (xs:List (List Value)):Out [] v xs:=fun _ _ _ h=>by cases h
variable {sz:Nat} {v:Value} {xs:List (List Value)}
theorem Rd.ka {md:List Nat} {w w':World} (h:Rd w v sz xs) (hn:Out md v xs) (hk:aJ md w w'):Rd w' v sz xs:=by
 obtain ⟨a,cap,b,o,rfl,h2,Ic,h3,h4⟩:=h;refine ⟨a,cap,b,o,I,h2,Ic,h3,fun i r hr=>⟨(h4 i r hr).1,fun j u hu=>?_⟩⟩;have:=(h4 i r hr).2 j u hu;have hb:=World.block_lt_of_cell? w _ this;have hne:xs≠[]:=by rintro rfl;simp at hr
 rw [<- this];simp only [World.cell?];rw [hk.block b hb (hn hne b (by rw [h3 hne];rfl))]
theorem Rd.out {md fp:List Nat} {w0:World} (h:Rd w0 v sz xs) (hsz:0<sz) (hn:Out md v xs) (hF:∀ b∈fp,b∈md\/w0.heap.size<=b):Out fp v xs:=fun hne b hb QD=>by
 obtain ⟨a,cap,b',o,rfl,h2,Ic,h3,h4⟩:=h;have ha:=h3 hne;subst ha;have:b'=b:=by simpa [Value.ownBlock] using hb
 subst this;obtain ⟨r,rs,rfl⟩:=List.exists_cons_of_ne_nil hne;obtain ⟨hl,hc⟩:=h4 0 r rfl;obtain ⟨u,us,rfl⟩:=List.exists_cons_of_ne_nil (l:=r) (by rintro rfl;simp at hl;omega);have aK:=World.block_lt_of_cell? w0 _ (hc 0 u I);rcases hF b' QD with h | h
 ·exact hn hne b' hb h
 ·exact absurd aK (by simp;omega)
theorem eZ.DN {c:Cx} {hs:List bd} {b o:Nat} {vs:List Value} (h:∀ (j:Nat) (u:Value),vs[j]? = some u->c.w0.cell? ⟨b,o+j,none⟩=some u) (H4:b ∉ c.md):eZ c hs b o vs:=
 eZ.wG fun j v hv=>At.DN (h j v hv) H4
def BQ (P:Program) (l:Nat) (args:List Value) (w0:World) (md:List Nat) (pre:bd) (post:Bool->bd):Prop:=
 ∀ W fp, aJ md w0 W -> (∀ b ∈ fp, b ∈ md \/ w0.heap.size <= b) -> fp.Nodup -> pre.sat (hp W) fp -> ∃ f tmps FC body, (Instr.yield l args.toArray).run P W = .ok (.round l f tmps FC body) W /\
  RoundIn (FR none) 0 P l f tmps FC body W (pW fp W post)
def Iter (P:Program) (f:FuncId) (first cap:List Value) (own:List bd) (items:List (List Value)) (w0:World) (md:List Nat) (w:World):Prop:=
 ∀ (l : Nat) (fp : List Nat) (J : Nat -> bd) (E : bd), aJ md w0 w -> (∀ b ∈ fp, b ∈ md \/ w0.heap.size <= b) -> fp.Nodup -> cr (hp w) (J 0 :: own) fp ->
  (∀ k vs,items[k]? = some vs->BQ P l vs w0 md (J k) (fun b=>bif b then J (k+1) else E)) ->
  a8 P f (first++[.func (.yield l) #[] #[]]++cap) w fp (fun _:Bool=>True) (fun _=>.tuple #[]) (fun b=>(bif b then J items.length else E)::own)
section
variable {P:Program} {r:Option Nat} {c:Cx} {D:List Nat} {sl:aL} {hs hs':List bd} {Q:Exit->Act->World->Prop} {ι κ:Type}
variable {ops:Array Oper} {d:Nat} {ty:TypeId} {pos:String} {af:Array Edge} {rest:List Oper}
variable {A:ι->List bd} {B:κ->List bd} {W:World} {fp:List Nat} {k l:Nat} {md:List Nat} {nt:Nat} {p:Option Code} {pd:κ->Code} {post:Bool->bd} {rc:Loop} {s:LoopState} {vs:List Value} {w0:World} {Ψ:κ->Prop}
theorem yW {x:Operand} {xs:List Operand} {ts:Array TypeId} {pre:bd} (hB:aJ md w0 c.w0) (hF:∀ b∈c.md,b∈md\/w0.heap.size<=b) (hy:BQ P l vs w0 md pre post)
  (hx:Is sl x (.func (.yield l) #[] #[])) (ha:IH sl xs vs) (hd:Nat.blt d c.nt=true) (ht:Take hs pre hs')
  (k:∀ b,Tr c D ((d,.bool b)::sl) (post b::hs') (WL P r ops Q rest)):Tr c D sl hs (WL P r ops Q (⟨some d,.call ⟨.value x,xs.toArray,ts⟩,ty,pos,af,none⟩::rest)):=fun a w ba=>by
 have hm:=ba.mem.take (ht.append _);obtain ⟨kk,fp,hn,⟨f1,f2,rfl,h1,h2⟩,hb⟩:=hm;obtain ⟨f,tmps,FC,body,iH,Uw⟩:=hy w f1 (hB.over hF kk) (fun b dK=>by
  rcases hb b (ZF _ dK) with h | h
  ·exact .inr (ZQ hB.size h)
  ·exact hF b h) (ZG.1 hn).1 h1
 refine nn I ⟨eA _ _ _ _ _,?_⟩;rw [Oper.semAt_eq _ _ _ (by simp)];have:(execOp a.eval ⟨some d,.call ⟨.value x,xs.toArray,ts⟩,ty,pos,af,none⟩).run P w=.ok (.round l f tmps FC body) w:=by
  simp only [execOp,resolve,hx a ba.du,Deferred.ofValue,Sem.run_bind,Sem.run_pure,Result.andThen_ok,invoke,List.map_toArray,ha.map ba.du];simpa using iH
 rw [this];refine ⟨by simp [FR,Fence.wide],(HB Uw).mono fun e w' ⟨b,he,hk,mw,uD,hs1,zL⟩=>?_⟩;subst he;refine k b _ _ ((ba.put (by simpa [Zac] using hd) (.bool b)).heap ?_);obtain ⟨n1,n2,n12⟩:=ZG.1 hn;have aK:∀ b∈f2,b<w.heap.size:=fun b dK=>let ⟨o,ho⟩:=h2.own b dK;kV ho
 refine ⟨?_,mw++f2,?_,⟨mw,f2,I,hs1,h2.loc fun b dK=>?_⟩,?_⟩
 ·refine ⟨hk.os.trans kk.os,hk.tape.trans kk.tape,hk.output.trans kk.output,ZQ kk.dr hk.dr,ZQ kk.size hk.size,fun b dK hm=>?_⟩;rw [<- kk.block b dK hm];refine hk.block b (ZaK dK kk.size) (fun hf=>?_);rcases hb b (ZF _ hf) with h | h
  ·omega
  ·exact hm h
 ·refine ZG.2 ⟨uD,n2,fun x hx y hy e=>?_⟩;subst e;rcases zL x hx with h | h
  ·exact n12 x h x hy I
  ·have:=aK x hy;omega
 ·exact hk.block b (aK b dK) (fun hf=>n12 b hf b dK I)
 ·intro b dK;rcases Zz.1 dK with h | h
  ·rcases zL b h with h | h
   ·exact hb b (ZF _ h)
   ·exact .inl (ZQ kk.size h)
  ·exact hb b (ZU _ h)
theorem Eb {Φ:ι->Prop} {sl0:aL} (uB:cg sl0 ⟨rc.tmps,[]⟩) (hn:rc.tmps.size=nt) (hlen:vs.length=rc.params.size) (hps:∀ t∈rc.params.toList,t<nt)
  (h:∀ x W fp,aJ md w0 W->(∀ b∈fp,b∈md\/w0.heap.size<=b)->Φ x->Tr ⟨W,fp,nt⟩ [] (mV (rc.params.toList.zip vs) sl0) (bE l (gR rc .ready none)::A x) (WP P (some l) rc.assign (Exit.then (FJ P l rc.body (pW fp W post)) (fun _ _ _=>False)))) :
  BQ P l vs w0 md (QV Φ fun x=>bE l (gR rc .ready none)::A x) post:=by
 rintro W fp hB hF jw ⟨x,hx,iZ⟩;have gN:Mem ⟨W,fp,nt⟩ (bE l (gR rc .ready none)::A x) W:=⟨.refl _ _,fp,jw,iZ,fun b hb=>.inr hb⟩
 have hb:W.heap[l]? = some (gR rc .ready none):=gN.bE .here;have hy:=run_yield (P:=P) (w:=W) (l:=l) (r:={ rc with state:=.ready,pending:=none }) (args:=vs.toArray) hb (by simpa using hlen)
 refine ⟨_,_,_,_,hy,?_⟩;refine roundIn_of_wpIn trivial ?_;obtain ⟨g1,g2⟩:=zp (rc.params.toList.zip vs) sl0 rc.tmps uB hn (fun p hp=>hps p.1 (by
  obtain ⟨t,v⟩:=p;exact (List.of_mem_zip hp).1))
 have X4:((rc.params.zip vs.toArray).foldl (fun tmps (x:Nat×Value)=>tmps.setIfInBounds x.1 x.2) rc.tmps)=(rc.params.toList.zip vs).foldl (fun (t:Array Value) p=>t.setIfInBounds p.1 p.2) rc.tmps:=by
  rw [<- Array.foldl_toList];simp
 have:=h x W fp hB hF hx ⟨(rc.params.toList.zip vs).foldl (fun (t:Array Value) p=>t.setIfInBounds p.1 p.2) rc.tmps,[]⟩ W ⟨by simpa [nB] using gN,g1,g2,I⟩
 rw [<- X4] at this;exact this
def qF (l:Nat) (rc:Loop) (Φ:Nat->ι->Prop) (A:ι->List bd) (Ψ:κ->Prop) (B:κ->List bd) (pd:κ->Code) (k:Nat) (b:Bool):bd:=
 bif b then QV (Φ k) (fun x=>bE l (gR rc .ready none)::A x) else QV Ψ (fun y=>bE l (gR rc .done (some (pd y)))::B y)
theorem jR {g:Operand} {ps:List Tmp} {FC body:Code} {f:FuncId} {first cap:List Value} [bW P f] (hg:Is sl g (.func (.func f) first.toArray cap.toArray))
  (own:List bd) (items:List (List Value)) (hit:∀ w,Mem c hs w->Iter P f first cap own items c.w0 c.md w)
  (Φ:Nat->ι->Prop) (A:ι->List bd) (Ψ:κ->Prop) (B:κ->List bd) (pd:κ->Code) (x0:ι) {rst:List bd} (h0:Φ 0 x0) (ht:bB hs (A x0++own) rst)
  (hlen:∀ vs∈items,vs.length=ps.length) (hps:∀ t∈ps,t<c.nt)
  (round:∀ l rc W fp k x vs,rc.tmps.size=c.nt->items[k]? = some vs->Φ k x->aJ c.md c.w0 W->(∀ b∈fp,b∈c.md\/c.w0.heap.size<=b) ->
   Tr ⟨W,fp,c.nt⟩ [] (mV (ps.zip vs) sl) (bE l (gR rc .ready none)::A x) (WP P (some l) FC (Exit.then (FJ P l body (pW fp W (qF l rc Φ A Ψ B pd (k+1)))) (fun _ _ _=>False))))
  (kn:∀ x D,Φ items.length x->Tr c D sl (A x++own++rst) (Q .normal))
  (kj:∀ y D,Ψ y->Tr c D sl (B y++own++rst) (WP P none (pd y) Q)) :
  Tr c D sl hs (WP P none (.rangeFunc g ps.toArray FC body) Q):=by
 refine Ar (ι:=ι ⊕ κ) hg (As:=fun l rc=>bE l (gR rc .ready none)::(A x0++own)) (rest:=rst)
  (Φ:=fun l rc x=>match x with | .inl x=>Φ items.length x | .inr y=>Ψ y) (own:=fun l rc x=>match x with | .inl x=>A x++own | .inr y=>B y++own)
  (st:=fun x=>match x with | .inl _=>.ready | .inr _=>.done) (pd:=fun x=>match x with | .inl _=>none | .inr y=>some (pd y)) ?_ ?_ ?_ ?_ ?_
 ·exact fun l rc=>bB.h1 ht
 ·rintro (x | y) <;> simp
 ·intro l rc UB ha V9 uB hsz w fp hm hn hs1 B0;have acL:∀ b∈fp,b∈c.md\/c.w0.heap.size<=b:=fun b hb=>(B0 b hb).symm
  have hs2:cr (hp w) (QV (Φ 0) (fun x=>bE l (gR rc .ready none)::A x)::own) fp:=by
   rw [<- Zb] at hs1;obtain ⟨f1,f2,rfl,h1,h2⟩:=cr.append_iff.1 hs1;exact ⟨f1,f2,I,⟨x0,h0,h1⟩,h2⟩
  refine (hit w hm.xy l fp (fun k=>QV (Φ k) (fun x=>bE l (gR rc .ready none)::A x)) (QV Ψ (fun y=>bE l (gR rc .done (some (pd y)))::B y)) hm.keeps acL hn hs2 ?_).mono ?_
  ·intro k vs hk;refine Eb (post:=qF l rc Φ A Ψ B pd (k+1)) uB hsz (by rw [UB];simpa using hlen vs (Z5 hk)) (by rw [UB];simpa using hps) ?_;intro x W YD hB hF hx;have:=round l rc W YD k x vs hsz hk hx hB hF;rw [ha,V9,UB];simpa using this
  ·rintro e w' ⟨b,he,_,hk,mw,uD,hs',zL⟩;obtain ⟨f1,f2,rfl,h1,h2⟩:=hs';cases b with
   | true =>
    obtain ⟨x,hx,h1⟩:=h1;exact ⟨.inl x,he,hx,hk,f1++f2,uD,by
     show cr _ (bE l (gR rc .ready none)::(A x++own)) _;rw [<- Zb];exact cr.append_iff.2 ⟨f1,f2,I,h1,h2⟩,zL⟩
   | false =>
    obtain ⟨y,hy,h1⟩:=h1;exact ⟨.inr y,he,hy,hk,f1++f2,uD,by
     show cr _ (bE l (gR rc .done (some (pd y)))::(B y++own)) _;rw [<- Zb];exact cr.append_iff.2 ⟨f1,f2,I,h1,h2⟩,zL⟩
 ·rintro l rc (x | y) b hx UC
  ·exact kn x (b::D) hx
  ·simp at UC
 ·rintro l rc (x | y) b j hx UC
  ·simp at UC
  ·simp only [Option.some.injEq] at UC;subst UC;exact kj y (b::D) hx
def z8 (c:Cx) (Φ:ι->Prop) (sI:ι->aL) (hI:ι->List bd) (μ:ι->Nat) (i:ι):Act->World->Prop:=fun a w=>∃ D j,Φ j/\μ j<μ i/\St c D (sI j) (hI j) a w
def xR (c:Cx) (Φ:ι->Prop) (sI:ι->aL) (hI:ι->List bd):Act->World->Prop:=fun a w=>∃ D i,Φ i/\St c D (sI i) (hI i) a w
theorem F1 {x:Code} (Φ:ι->Prop) (sI:ι->aL) (hI:ι->List bd) (μ:ι->Nat)
  (h0:Tr c D sl hs (xR c Φ sI hI))
  (round:∀ i,Φ i->∀ D,Tr c D (sI i) (hI i) (WP P r x (Exit.then (z8 c Φ sI hI μ i) Q))) :
  Tr c D sl hs (WP P r (.loop x) Q):=fun a w ba=>by
 let fits:Act->World->Nat->Prop:=fun a w n=>∃ D i,Φ i/\μ i=n/\St c D (sI i) (hI i) a w
 have least:∀ a w,(∃ n,fits a w n)->∃ n,fits a w n/\∀ m,fits a w m->n<=m:=by
  intro a w ⟨n,hn⟩
  induction n using Nat.strongRecOn with
  | _ n ih =>
   by_cases h:∃ m,m<n/\fits a w m
   ·obtain ⟨m,hm,hf⟩:=h;exact ih m hm hf
   ·exact ⟨n,hn,fun m hm=>Zbg fun aK=>h ⟨m,aK,hm⟩⟩
 let M:Act->World->Nat:=fun a w=>Classical.epsilon fun n=>fits a w n/\∀ m,fits a w m->n<=m
 have hM:∀ a w,(∃ n,fits a w n)->fits a w (M a w)/\∀ m,fits a w m->M a w<=m:=fun a w h=>Classical.epsilon_spec (least a w h)
 refine wpIn_loop (fun a w=>∃ n,fits a w n) M ?_ ?_
 ·obtain ⟨D,i,hi,hs⟩:=h0 a w ba;exact ⟨μ i,D,i,hi,I,hs⟩
 ·intro a w hI;obtain ⟨⟨D,i,hi,hm,hs⟩,_⟩:=hM a w hI;refine wpIn_mono (round i hi D a w hs) fun e a' w' h=>?_;cases e with
  | normal =>
   obtain ⟨D',j,hj,aK,hs'⟩:=h;have hf:fits a' w' (μ j):=⟨D',j,hj,I,hs'⟩;exact ⟨⟨_,hf⟩,Nat.lt_of_le_of_lt ((hM a' w' ⟨_,hf⟩).2 _ hf) (by rw [<- hm];exact aK)⟩
  | _=>exact h
theorem Cg {Φ:ι->Prop} {sI:ι->aL} {hI:ι->List bd} {μ:ι->Nat} {i:ι} (j:ι) {rest:List bd} (hΦ:Φ j) (hμ:μ j<μ i) (hs1:mh sl (sI j)) (ht:bB hs (hI j) rest):Tr c D sl hs (z8 c Φ sI hI μ i):=
 fun a w ba=>⟨D,j,hΦ,hμ,ba.weaken hs1 ht⟩
theorem yX {Φ:ι->Prop} {sI:ι->aL} {hI:ι->List bd} (j:ι) {rest:List bd} (hΦ:Φ j) (hs1:mh sl (sI j)) (ht:bB hs (hI j) rest):Tr c D sl hs (xR c Φ sI hI):=
 fun a w ba=>⟨D,j,hΦ,ba.weaken hs1 ht⟩
theorem mC {Φ:Nat->ι->Prop} (x:ι) {rst Ph:List bd}
  (ht:Take hs (bE l (gR rc s p)) rst) (hx:Φ k x) (h2:bB rst (A x) Ph):Tr ⟨W,fp,nt⟩ D sl hs (roundPost P l (pW fp W (qF l rc Φ A Ψ B pd k)) .normal):=
 Ht (c:=⟨W,fp,nt⟩) (post:=qF l rc Φ A Ψ B pd k) x I ht hx (bB.h1 h2)
theorem OJ {Φ:Nat->ι->Prop} (y:κ) {rst Ph:List bd}
  (UC:pd y=.ret) (ht:Take hs (bE l (gR rc s p)) rst) (hy:Ψ y) (h2:bB rst (B y) Ph):Tr ⟨W,fp,nt⟩ D sl hs (roundPost P l (pW fp W (qF l rc Φ A Ψ B pd k)) .ret):=by
 refine Hs (c:=⟨W,fp,nt⟩) (post:=qF l rc Φ A Ψ B pd k) (Φ:=Ψ) (A:=fun y=>bE l (gR rc .done (some (pd y)))::B y) y (rest:=Ph) I ht hy ?_;rw [UC];exact bB.h1 h2
end
end Go.SL
namespace Go.SL
open Go
theorem uZ {α:Type} {zs:List α} {n i:Nat} (h0:0<zs.length) (hi:i<n*zs.length):(List.replicate n zs).flatten[i]? = zs[i % zs.length]?:=by
 induction n generalizing i with
 | zero=>omega
 | succ n ih =>
  rw [List.replicate_succ,ZaB,List.getElem?_append];split
  ·rw [Nat.mod_eq_of_lt (by assumption)]
  ·rw [ih (by rw [Zai] at hi;omega),Nat.mod_eq_sub_mod (a:=i) (by omega)]
theorem wM {z:Array Value} {n:Nat} (h0:0<z.size):(madeCells z (n*z.size))=(List.replicate n z.toList).flatten.toArray:=by
 apply Array.ext';apply Zat;intro i;rw [ZaH];by_cases hi:i<n*z.size
 ·have:=uZ (zs:=z.toList) (n:=n) (i:=i) (by simpa using h0) (by simpa using hi);rw [this];simp [madeCells,hi,Nat.mod_lt _ h0]
 ·rw [Zbs (by simp [size_madeCells];omega),Zak (by simp;omega)]
section
variable {P:Program} {c:Cx} {sl:aL} {hs:List bd} {dst:Option Tmp} {ty:TypeId} {pos:String} {af:Array Edge} {g:Option (Nat×Bool)}
theorem Pq {t e:TypeId} {agg:Bool} {size bytes l cp:Nat} {z:Value} {x y:Operand} {kx ky:IntKind} [hu:ja P t (.slice e)] [hT:Ty P e agg size] [hZ:mn P e z] [hB:u6 P e bytes]
  (hx:Is sl x (.int kx l)) (hy:Is sl y (.int ky cp)) (hl:l<=cp) (hb:bytes*cp<=281474976710656) (hz:z.cells.size=size) (hsz:Nat.blt 0 size=true) (h63:cp<=9223372036854775807) :
  qL P c sl hs ⟨dst,.makeSlice t x y,ty,pos,af,g⟩ (fun b=>.w b l cp) (.cells (List.replicate cp z.cells.toList).flatten.toArray e (0,0)):=
 ⟨by simp,fun a w ha _=>by
  obtain ⟨de,i,mZ,hi,_,gY⟩:=Ty.parts (P:=P) (t:=e) (agg:=agg) (n:=size);have hzero:i.zero=some z:=by have:=hZ.eq;rw [hi] at this;simpa using this
  have gJ:i.bytes=bytes:=by have:=hB.eq;rw [hi] at this;simpa using this
  have hs0:0<size:=by simpa [Zac] using hsz
  have:=run_make (P:=P) w t e i z hu.eq hi hzero kx ky l cp (by omega) (by omega) (by rw [gJ];omega) (by omega);have e1:=wM (z:=z.cells) (n:=cp) (by omega);rw [hz] at e1;simp only [execOp,hx a ha,hy a ha];refine (by rw [Sem.run_bind,this];simp only [ZH,gY,e1];rfl)⟩
end
end Go.SL
namespace Go.SL
open Go
def ui (n:Nat) (f:Nat->List Value):List Value:=((List.range n).map f).flatten
variable {f:Nat->List Value}
theorem iT {n sz:Nat} (hf:∀ i,i<n->(f i).length=sz):(ui n f).length=n*sz:=by
 unfold ui
 induction n with
 | zero=>simp
 | succ n ih =>
  rw [Zbw,Zv,Zaf,Zg,ih (fun i h=>hf i (by omega))]
  simp [hf n (by omega),Zai]
theorem AB {n sz i j:Nat} (hf:∀ i,i<n->(f i).length=sz) (hi:i<n) (hj:j<sz):(ui n f)[i*sz+j]? = (f i)[j]?:=by
 have hl:=hf i hi;obtain ⟨u,hu⟩:∃ u,(f i)[j]? = some u:=⟨(f i)[j]'(by omega),Zc (by omega)⟩;rw [hu];exact pK _ i (fun r hr=>by obtain ⟨k,hk,rfl⟩:=Zx.1 hr;exact hf k (ZW.1 hk)) (by simp [hi]) hu
theorem nu {n:Nat} {f g:Nat->List Value} (h:∀ i,i<n->f i=g i):ui n f=ui n g:=by
 unfold ui;congr 1;exact Zbe fun i hi=>h i (ZW.1 hi)
theorem jb:∀ (vs cs:List Value) (o k:Nat),o+vs.length<=cs.length->(setCells cs o vs)[k]? = if o<=k/\k<o+vs.length then vs[k-o]? else cs[k]?
 | [], cs, o, k, _ => by
  rw [if_neg (by simp only [Zaa];omega)];rfl
 | v :: vs, cs, o, k, h => by
  simp only [ZA] at h ⊢;rw [setCells,jb vs _ (o+1) k (by simp;omega)];by_cases h1:o+1<=k/\k<o+1+vs.length
  ·rw [if_pos h1,if_pos (by omega),show k-o=(k-(o+1))+1 by omega,ZaZ]
  ·rw [if_neg h1];by_cases h2:k=o
   ·subst h2;rw [if_pos (by omega),Nat.sub_self,ZaC,List.getElem?_set_self (by omega)]
   ·rw [if_neg (by omega),List.getElem?_set_ne (by omega)]
theorem Hz {n sz k:Nat} (h:k<n*sz):k / sz<n/\k % sz<sz/\k=k / sz*sz+k % sz:=by
 have hs:0<sz:=by
  rcases Nat.eq_zero_or_pos sz with h0 | h0
  ·subst h0;simp at h
  ·exact h0
 refine ⟨Nat.div_lt_of_lt_mul (by rwa [Nat.mul_comm]),Nat.mod_lt _ hs,?_⟩;have:=Nat.div_add_mod k sz;rw [Nat.mul_comm] at this;exact this.symm
theorem OT {n sz i o:Nat} {vs:List Value} (hf:∀ i,i<n->(f i).length=sz) (hi:i<n) (ho:o+vs.length<=sz) :
  setCells (ui n f) (i*sz+o) vs=ui n (fun k=>if k=i then setCells (f i) o vs else f k):=by
 have hm:(i+1)*sz<=n*sz:=Z7 _ hi;rw [Zai] at hm;have hg:∀ k,k<n->((fun k=>if k=i then setCells (f i) o vs else f k) k).length=sz:=fun k hk=>by
  show (if k=i then _ else _:List Value).length=sz
  split
  ·rw [lg,hf i hi]
  ·exact hf k hk
 have UN:=iT hf;have D5:=iT hg;apply Zat;intro k;rw [jb _ _ _ _ (by rw [UN];omega)];by_cases hk:k<n*sz
 ·obtain ⟨h1,h2,h3⟩:=Hz hk;rw [h3,AB hg h1 h2,AB hf h1 h2];by_cases e:k / sz=i
  ·rw [e];simp only [if_true];rw [jb _ _ _ _ (by rw [hf i hi];omega)];by_cases h4:o<=k % sz/\k % sz<o+vs.length
   ·rw [if_pos h4,if_pos (by omega),show i*sz+k % sz-(i*sz+o)=k % sz-o by omega]
   ·rw [if_neg h4,if_neg (by omega)]
  ·rw [if_neg]
   ·simp only [if_neg e]
   ·intro ⟨h4,h5⟩;rcases Nat.lt_or_gt_of_ne e with e | e
    ·have:(k / sz+1)*sz<=i*sz:=Z7 _ e;rw [Zai] at this;omega
    ·have:(i+1)*sz<=k / sz*sz:=Z7 _ e;rw [Zai] at this;omega
 ·rw [if_neg (by omega),Zak (by omega),Zak (by omega)]
theorem Er (n:Nat) (f:Nat->List Value):ui n f=((List.range n).map f).flatten:=rfl
theorem At.mz {c:Cx} {hs hs':List bd} {b o:Nat} {cs:List Value} {E:TypeId} {fz:Nat×Nat} {v:Value} (ht:Take hs (SL.bE b (.cells cs.toArray E fz)) hs') (hv:cs[o]? = some v):At c hs b o v:=
 At.bE ht (by simpa using hv)
section
variable {P:Program} {c:Cx} {sl:aL} {hs hs':List bd}
theorem tY {fn:Func} {t u:Tmp} {T:TypeId} {b o n:Nat} {cs vs:List Value} {E:TypeId} {fz:Nat×Nat} {y:Value} (h:fn.results=#[.cell t T,.tmp u]) (hT:Ty P T true n) (hp:db sl t=some (.pointer (some ⟨b,o,none⟩))) (ht:Take hs (SL.bE b (.cells cs.toArray E fz)) hs') (hv:eK cs o n=vs) (hl:vs.length=n) (hy:db sl u=some y):Ends P fn c sl hs (.tuple #[.agg vs.toArray,y]):=
 SJ (xs:=[.cell t T,.tmp u]) (vs:=[.agg vs.toArray,y]) h (I9.cons (RV.cell hp (LP (eZ.bE ht hv) hl)) (I9.cons (RV.tmp hy) I9.nil)) (by simp)
variable {dst:Option Tmp} {ty:TypeId} {pos:String} {af:Array Edge} {g:Option (Nat×Bool)}
theorem bn {t e:TypeId} {agg:Bool} {n size:Nat} {z:Value} {xs:List (Nat×Operand)} {ps:List (Nat×Value)} {zs cs:List Value} {places:List (Nat×Nat)} [hu:ja P t (.slice e)] [hT:Ty P e agg size] [hZ:mn P e z] (hp:xQ sl xs ps)
  (hn:Nat.ble (n*size) 1000=true) (ab6:Nat.blt 0 (n*size)=true) (w9:(List.range n).map (fun i=>(i*size,size))=places) (hzs:(List.range (n*size)).map (fun i=>z.cells[i % z.cells.size]!)=zs) (hf:uL places zs ps=some cs) :
  qL P c sl hs ⟨dst,.buildSlice t n xs.toArray,ty,pos,af,g⟩ (fun b=>.w b n n) (.cells cs.toArray e):=
 kH (ps:=ps.toArray) (fun a ha=>by have:=hp.map ha;rw [List.map_toArray,this]) (fun w=>by
  have uD:n*size<=1000:=by simpa using hn
  have mu:0<n*size:=by simpa [Zac] using ab6
  unfold Instr.buildSlice;simp only [Sem.run_bind,aY hu.eq,Result.andThen_ok,gp (t:=e) (agg:=agg) (n:=size)];rw [if_neg (by omega),if_neg (by omega)];simp only [Sem.run_bind,jc (t:=e) (v:=z),Result.andThen_ok,Sem.run_pure];have h1:(Array.range (n*size)).map (fun i=>z.cells[i % z.cells.size]!)=zs.toArray:=by
   rw [<- hzs];apply Array.ext';simp
  have h2:=fill_eq (places:=places) (f:=fun i=>if i<n then some (i*size,size) else none) (fun i x hx=>by
   subst w9;simp only [ZE,Zal] at hx;obtain ⟨k,hk,rfl⟩:=hx;obtain ⟨aK,hk⟩:=Zn.1 hk;simp only [Zbj] at hk;subst hk;simp only [Zau] at aK;simp [aK]) ps zs cs hf
  have h3:Instr.fill (fun i=>some (i*size,size)) zs.toArray ps=some cs.toArray:=by
   have key:∀ (l:List (Nat×Value)) (cc:Array Value) (r:Array Value),Instr.fill (fun i=>if i<n then some (i*size,size) else none) cc l=some r->Instr.fill (fun i=>some (i*size,size)) cc l=some r:=by
    intro l
    induction l with
    | nil=>intro cc r h;exact h
    | cons x l ih =>
     obtain ⟨i,v⟩:=x;intro cc r h;simp only [Instr.fill] at h ⊢;by_cases hi:i<n
     ·rw [if_pos hi] at h;simp only at h;split at h
      ·cases h
      ·rename_i hc;rw [if_neg hc];exact ih _ _ h
     ·rw [if_neg hi] at h;cases h
   exact key ps zs.toArray cs.toArray h2
  rw [h1,h3];simp [newRow])
variable {X:Act->World->Prop} {v:Value} {xs:List Value}
theorem qd {D:List Nat} {E:TypeId} {sz n:Nat} (ht:Take hs (row E sz v n xs) hs') (k:v.oneCell'=true->Tr c D sl hs X):Tr c D sl hs X:=fun a w ba=>by
 refine k ?_ a w ba;obtain ⟨_,fp,_,⟨f1,f2,_,h1,_⟩,_⟩:=ba.pq.take ht;obtain ⟨_,_,⟨rfl,_⟩ | ⟨g,cap,cur,rfl,_⟩⟩:=h1
 ·rfl
 ·rfl
theorem aM {D:List Nat} {E:TypeId} {sz n:Nat} (ht:Take hs (row E sz v n xs) hs') (k:∀ a cap,v=.slice a n cap->Tr c D sl hs X):Tr c D sl hs X:=fun a w ba=>by
 obtain ⟨_,fp,_,⟨f1,f2,_,h1,_⟩,_⟩:=ba.pq.take ht;obtain ⟨_,_,⟨rfl,rfl⟩ | ⟨g,cap,cur,rfl,_⟩⟩:=h1
 ·exact k _ _ I a w ba
 ·exact k _ _ I a w ba
end
end Go.SL
namespace Go.SL
open Go
def NP (Q:Exit->Act->World->Prop):Exit->Act->World->Prop
 | .panic _=>fun _ _=>False
 | e=>Q e
theorem Oper.vJ {F:Fence} {n:Nat} {P:Program} {o:Oper} {a:Act} {w:World} {K K':Act->World->Prop} {Q Q':Exit->Act->World->Prop} (h:∀ a w,K a w->K' a w) (hq:∀ c a w,Q (.panic c) a w->Q' (.panic c) a w) (hl:LetsOut Q->LetsOut Q')
  (hh:o.wpIn F n P a w K Q):o.wpIn F n P a w K' Q':=by
 unfold Oper.wpIn at *;refine ⟨hh.1,?_⟩;have hh:=hh.2;generalize (o.semAt F.round a.eval).run P w=r at *;cases r with
 | ok x w' =>
  cases x <;> simp only [Oper.uponIn] at hh ⊢ <;>
   first
    | exact h _ _ hh
    | exact ⟨hh.1,CallsIn.mono hh.2 (fun e Ah he=>by cases e <;> first | exact h _ _ he | exact hq _ _ _ he | exact hl he | exact he)⟩
    | exact ⟨hh.1,RowsIn.mono hh.2 (fun _ _ he=>h _ _ he)⟩
    | exact ⟨hh.1,RoundIn.mono hh.2 (fun e Ah he=>by cases e <;> first | exact h _ _ he | exact hq _ _ _ he | exact hl he | exact he)⟩
 | halt x w'=>cases x <;> simp only [Oper.uponIn] at hh ⊢ <;> first | exact hh | exact hq _ _ _ hh
section
variable {P:Program} {r:Option Nat} {c:Cx} {D:List Nat} {sl:aL} {hs hs':List bd} {Q:Exit->Act->World->Prop} {ops:Array Oper} {fuel i:Nat} {listed:Array Bool}
def Left (P:Program) (ops:Array Oper) (Q:Exit->Act->World->Prop) (fuel:Nat) (listed:Array Bool):Act->World->Prop:=wpAnyIn (FR none) 0 P .any ops (NP Q) fuel listed
theorem ON {id:Nat} {l:List Oper} (n:Nat) [sH:VI P] (hn:l.length=n) (k:Tr c D sl hs (Left P l.toArray Q n (Array.replicate n false))):Tr c D sl hs (WP P none (.region id l.toArray true) Q):=fun a w ba=>by
 subst hn;have h:(Code.region id l.toArray true).wpIn (FR none) 0 P (NP Q) a w:=wpIn_region_any sH.eq (by
  have:=k a w.drew (ba.heap ba.mem.drew);simpa [Left] using this)
 exact wpIn_mono h fun e a' w' h=>by
  cases e with
  | panic c=>exact h.elim
  | _=>exact h
theorem fB (i:Nat) {d:Nat} {op:Op} {ty:TypeId} {pos:String} {af:Array Edge} {V:Value} (hi:ops[i]? = some ⟨some d,op,ty,pos,af,none⟩) (hs1:Region.noSelect ops=true) (hf:Region.free .any ops listed i=true) (hr:(Region.ready .any ops listed).contains i=true)
  (Of:∀ (w:World) (ρ:Operand->Value),Oper.about P w ρ ⟨some d,op,ty,pos,af,none⟩=none) (hv:∀ w,di P ⟨w,[],0⟩ sl [] ⟨some d,op,ty,pos,af,none⟩ V) (hd:Nat.blt d c.nt=true)
  (k:Tr c D ((d,V)::sl) hs (Left P ops Q fuel (listed.setIfInBounds i true))):Tr c D sl hs (Left P ops Q (fuel+1) listed):=fun a w ba=>by
 refine wpAnyIn_take (oi:=⟨some d,op,ty,pos,af,none⟩) I hi hs1 hf hr (fun c a w h=>h) (v:=V) ⟨.inl ⟨by simp [Region.wanted],fun w'=>?_⟩,fun w'=>Of w' _⟩ (k _ _ (ba.put (by simpa [Zac] using hd) V));exact (hv w').2 a w' ba.du ⟨.refl _ _,[],Zan,I,by simp⟩
def Next (P:Program) (c:Cx) (D:List Nat) (sl:aL) (hs:List bd) (ops:Array Oper) (Q:Exit->Act->World->Prop) (fuel:Nat) (listed:Array Bool) (i:Nat):Prop:=
 ∀ a w,St c D sl hs a w->wpOpIn (FR none) 0 P ops (NP Q) i (Left P ops Q fuel (listed.setIfInBounds i true)) a w
theorem bI {rs:List Nat} (hr:Region.ready .any ops listed=rs) (hne:rs≠[]) (h:∀ i∈rs,Next P c D sl hs ops Q fuel listed i):Tr c D sl hs (Left P ops Q (fuel+1) listed):=fun a w ba=>
 wpAnyIn_all hr hne fun i hi=>h i hi a w ba
theorem bP {d:Option Tmp} {op:Op} {ty:TypeId} {pos:String} {af:Array Edge} {g:Option (Nat×Bool)} (hi:ops[i]? = some ⟨d,op,ty,pos,af,g⟩) (h:Tr c D sl hs (WL P none ops (Exit.then (Left P ops Q fuel (listed.setIfInBounds i true)) (NP Q)) [⟨d,op,ty,pos,af,g⟩])):Next P c D sl hs ops Q fuel listed i:=fun a w ba=>by
 have h1:=h a w ba;unfold wpOpIn;simp only [hi];unfold WL at h1;split
 ·rename_i hw;rw [if_pos hw] at h1;exact Oper.vJ (fun a w h=>h) (fun c a w h=>h) (fun h=>h) h1
 ·rename_i hw;rw [if_neg hw] at h1;exact ⟨fun _ _=>trivial,h1⟩
theorem cu (hr:Region.ready .any ops listed=[]) (k:Tr c D sl hs (Q .normal)):Tr c D sl hs (Left P ops Q fuel listed):=fun a w ba=>
 wpAnyIn_done (Q:=NP Q) hr (k a w ba) fuel
theorem Ko {x:Code} (h:Tr c D sl hs (WP P none x (Exit.noGoto Q))):Tr c D sl hs (WP P none (.scope x) Q):=fun a w ba=>
 (wpIn_wide (n:=0)).2 (wp_scope_straight ((wpIn_wide (n:=0)).1 (h a w ba)))
theorem tu (h:Tr c D sl hs (Q .ret)):Tr c D sl hs (Exit.noGoto Q .ret):=h
theorem Kt {l:Nat} {r:Option Nat} (h:Tr c D sl hs (Q .normal)):Tr c D sl hs (WP P r (.label l) Q):=fun a w ba=>wpIn_label (h a w ba)
variable {dst:Option Tmp} {ty:TypeId} {pos:String} {af:Array Edge} {g:Option (Nat×Bool)}
theorem iv {t u e:TypeId} {x y:Operand} {a:Option Addr} {n cp n' Wg:Nat} [hu:ja P t (.slice e)] (hx:Is sl x (.slice a n cp)) (hy:Is sl y (.slice none n' Wg)):di P c sl hs ⟨dst,.binOp .eql t x y u,ty,pos,af,g⟩ (.bool a.isNone):=
 jm hx hy fun w=>by
  have h1:(eqGuard .eql t x y (.slice a n cp) (.slice none n' Wg)).run P w=.ok () w:=by simp [eqGuard]
  rw [Sem.run_bind,h1,Result.andThen_ok];exact Go.Lib.run_eql_slice_nil w t e a n cp n' Wg hu.eq
end
end Go.SL
namespace Go.SL
open Go
class BP (b:Bool) (p q:outParam Prop):Prop where
 t:b=true->p
 f:b=false->q
instance (priority:=low) {b:Bool}:BP b (b=true) (b=false):=⟨id,id⟩
instance {p:Prop} {inst:Decidable p}:BP (@decide p inst) p (¬ p):=⟨of_decide_eq_true,of_decide_eq_false⟩
instance {a:Bool} {p q:Prop} [h:BP a p q]:BP (!a) q p:=⟨fun e=>h.f (by simpa using e),fun e=>h.t (by simpa using e)⟩
instance {a b:Bool} {p q p' q':Prop} [h:BP a p q] [h':BP b p' q']:BP (a||b) (p\/p') (q/\q'):=
 ⟨fun e=>(ZT _ _ ▸ e).elim (fun e=>.inl (h.t e)) (fun e=>.inr (h'.t e)),fun e=>by
  rw [Bool.or_eq_false_iff] at e;exact ⟨h.f e.1,h'.f e.2⟩⟩
instance {a b:Bool} {p q p' q':Prop} [h:BP a p q] [h':BP b p' q']:BP (a&&b) (p/\p') (q\/q'):=
 ⟨fun e=>by
  rw [Zm] at e;exact ⟨h.t e.1,h'.t e.2⟩,fun e=>(Bool.and_eq_false_iff.1 e).elim (fun e=>.inl (h.f e)) (fun e=>.inr (h'.f e))⟩
instance {a:Bool} {p q:Prop} [h:BP a p q]:BP (a==true) p q:=⟨fun e=>h.t (by simpa using e),fun e=>h.f (by simpa using e)⟩
instance {a:Bool} {p q:Prop} [h:BP a p q]:BP (a==false) q p:=⟨fun e=>h.f (by simpa using e),fun e=>h.t (by simpa using e)⟩
theorem ig:∀ u∈([]:List Value),u.oneCell'=true:=fun _ h=>absurd h Zo
theorem bR {v:Value} {vs:List Value} (h:v.oneCell'=true) (t:∀ u∈vs,u.oneCell'=true):∀ u∈v::vs,u.oneCell'=true:=Zq.2 ⟨h,t⟩
theorem R3 {n:Int} (h:-9223372036854775808<=n/\n<=9223372036854775807):InI n:=h
theorem bz {a b:Nat} (h:Nat.ble a b=true):a<=b:=ZaA h
theorem ak {α:Type} {a b:α} (h:a=b:=by (first | (simp only [Int.toNat_zero,Int.toNat_one,Int.reduceToNat,uL,setCells,eK,partOf,Value.cells,uU,cond_true,cond_false,ZaC,ZaZ,List.set_cons_zero,List.set_cons_succ,Zbn,ZA,Zaa,Nat.reduceAdd,Nat.reduceMul,Nat.reduceLeDiff,and_self,and_true,true_and,if_true,List.set,List.length_set,Zy,ZD,Zaw];exact I) | exact I)):a=b:=h
theorem ae {α:Type} {a b:α} (h:a=b:=by (first | (simp only [Nat.reduceAdd,ZD,Zaw];exact I) | exact I)):a=b:=h
theorem aW {α:Type} {a b:α} (h:a=b:=by (first | (simp only [ZH,ZD,Int.reduceToNat,Int.toNat_zero,Int.toNat_one];exact I) | exact I)):a=b:=h
theorem dZ {α:Type} {a b:α} (h:a=b:=by first | ((try simp only [Za,ZJ,Zb]);exact I) | exact I):a=b:=h
theorem bH {α:Type} {a b:α} (h:a=b:=by first | (simp only [List.range,List.range.loop,List.map,Nat.reduceMul];exact I) | exact I):a=b:=h
theorem ed {a b:Nat} (h:a<=b:=by first | omega | (simp only [Zg,ZA,Zaa];omega)):a<=b:=h
theorem nh {α:Type} {a b:α} (h:a=b:=by kernel_rfl):a=b:=h
section
variable {P:Program} {r:Option Nat} {c:Cx} {D:List Nat} {sl:aL} {rl:fw} {hs hs':List bd} {Q:Exit->Act->World->Prop} {ops:Array Oper} {m d:Nat} {dst:Option Tmp} {op:Op} {ty:TypeId} {pos:String} {af:Array Edge} {rest:List Oper}
theorem Ch {t:TypeId} (hd:Nat.blt d c.nt=true) (k:∀ b,c.w0.heap.size<=b->Tr c D ((d,.map (some b))::sl) (mp (fun s:ByteArray=>Value.string s) b []::hs) (WL P r ops Q rest)) :
  Tr c D sl hs (WL P r ops Q (⟨some d,.makeMap t none,ty,pos,af,none⟩::rest)):=Ei (fun s:ByteArray=>Value.string s) hd k
variable {V:Value} {p p':Prop} {q want:Bool}
theorem ew {j g:Nat} (hj:((ops[j]?).bind (·.dst))=some g) (hq:db sl g=some (.bool q)) (hn:(q==want)=false) (hd:Nat.blt d c.nt=true) (k:Tr c D ((d,gv (q==want) (.bool false))::sl) hs (WL P r ops Q rest)) :
  Tr c D sl hs (WL P r ops Q (⟨some d,op,ty,pos,af,some (j,want)⟩::rest)):=vM hj hq (fun e=>absurd (hn.symm.trans e) (by decide)) hd k
theorem Kw {x:Operand} {b:Bool} {p q:Prop} {u v:Code} (hx:Is sl x (.bool b)) (hb:BP b p q)
  (ht:p->Tr c D sl hs (WP P r u Q)) (hf:q->Tr c D sl hs (WP P r v Q)):Tr c D sl hs (WP P r (.cond x u v) Q):=
 F3 hx (fun e=>ht (hb.t e)) (fun e=>hf (hb.f e))
theorem fk {j g:Nat} {want c0 q:Bool} (hj:((ops[j]?).bind (·.dst))=some g) (hq:db sl g=some (gv c0 (.bool q))) (hb:BP (c0&&(q==want)) p p')
  (hr:(c0&&(q==want))=true->p->di P c sl hs ⟨some d,op,ty,pos,af,some (j,want)⟩ V) (hd:Nat.blt d c.nt=true) (k:Tr c D ((d,gv (c0&&(q==want)) V)::sl) hs (WL P r ops Q rest)) :
  Tr c D sl hs (WL P r ops Q (⟨some d,op,ty,pos,af,some (j,want)⟩::rest)):=FZ hj hq (fun e=>hr e (hb.t e)) hd k
theorem aF {j g:Nat} (hj:((ops[j]?).bind (·.dst))=some g) (hq:db sl g=some (.bool q)) (hb:BP (q==want) p p')
  (hr:(q==want)=true->p->di P c sl hs ⟨some d,op,ty,pos,af,some (j,want)⟩ V) (hd:Nat.blt d c.nt=true) (k:Tr c D ((d,gv (q==want) V)::sl) hs (WL P r ops Q rest)) :
  Tr c D sl hs (WL P r ops Q (⟨some d,op,ty,pos,af,some (j,want)⟩::rest)):=vM hj hq (fun e=>hr e (hb.t e)) hd k
theorem gM {j gs:Nat} {want c0 q:Bool} (hj:((ops[j]?).bind (·.dst))=some gs) (hq:db sl gs=some (gv c0 (.bool q))) (hb:BP (c0&&(q==want)) p p')
  (hr:(c0&&(q==want))=true->p->di P c sl hs ⟨some d,op,ty,pos,af,some (j,want)⟩ V) (hd:Nat.blt d c.nt=true) (k:lM P r c D hs ops Q m rest ((d,gv (c0&&(q==want)) V)::sl) rl) :
  lM P r c D hs ops Q (m+1) (⟨some d,op,ty,pos,af,some (j,want)⟩::rest) sl rl:=DQ hj hq (fun e=>hr e (hb.t e)) hd k
theorem bN {j gs:Nat} (hj:((ops[j]?).bind (·.dst))=some gs) (hq:db sl gs=some (.bool q)) (hb:BP (q==want) p p')
  (hr:(q==want)=true->p->di P c sl hs ⟨some d,op,ty,pos,af,some (j,want)⟩ V) (hd:Nat.blt d c.nt=true) (k:lM P r c D hs ops Q m rest ((d,gv (q==want) V)::sl) rl) :
  lM P r c D hs ops Q (m+1) (⟨some d,op,ty,pos,af,some (j,want)⟩::rest) sl rl:=Iz hj hq (fun e=>hr e (hb.t e)) hd k
end
theorem G3 {P:Program} {c:Cx} {sl:aL} {hs:List bd} {fn:Func} {t:Tmp} {T:TypeId} {b o n:Nat} {v:Value} (h:fn.results=#[.cell t T]) (hT:Ty P T false n) (hp:db sl t=some (.pointer (some ⟨b,o,none⟩))) (hv:At c hs b o v):Ends P fn c sl hs v:=Vh h hp hv
section
variable {P:Program} {r:Option Nat} {c:Cx} {D:List Nat} {sl:aL} {rl:fw} {hs hs':List bd} {Q:Exit->Act->World->Prop} {ops:Array Oper} {m d:Nat} {op:Op} {ty:TypeId} {pos:String} {af:Array Edge} {rest:List Oper}
variable {N:Act->World->Prop} {id:Nat} {l:List Oper} {v:Value} {x:Operand} {y:Code}
theorem s_r (h:Tr c D sl hs (WL P r l.toArray (Exit.then (WP P r y Q) Q) l)):Tr c D sl hs (WP P r (.seq (.region id l.toArray false) y) Q):=qZ (nq h)
theorem n_t (h:Tr c D sl hs N):Tr c D sl hs (WL P r ops (Exit.then N Q) []):=h
theorem n_r {Q':Exit->Act->World->Prop} (h:Tr c D sl hs (WL P r l.toArray (Exit.then (WP P r y Q) Q) l)):Tr c D sl hs (WL P r ops (Exit.then (WP P r (.seq (.region id l.toArray false) y) Q) Q') []):=qZ (nq h)
theorem s_t (h:Tr c D sl hs N):Tr c D sl hs (WP P r .skip (Exit.then N Q)):=F0 h
theorem x_t (h:Tr c D sl hs (Q (.exit id))):Tr c D sl hs (WP P r (.exit id) (Exit.then N Q)):=OO h
theorem r_t (h:Tr c D sl hs (Q .ret)):Tr c D sl hs (WP P r .ret (Exit.then N Q)):=Kp h
theorem PU (hx:ev sl x=some v) (hd:Nat.blt d c.nt=true) (k:Tr c D ((d,v)::sl) hs (WL P r ops Q rest)):Tr c D sl hs (WL P r ops Q (⟨some d,.move x,ty,pos,af,none⟩::rest)):=ab (aP (.of hx)) hd k
theorem a_s (hx:ev sl x=some v) (hd:Nat.blt d c.nt=true) (k:Tr c D ((d,v)::sl) hs (WL P r ops Q rest)):Tr c D sl hs (WL P r ops Q (⟨some d,.assign x,ty,pos,af,none⟩::rest)):=ab (cM (.of hx)) hd k
theorem gn (hx:ev sl x=some v) (hd:Nat.blt d c.nt=true) (k:lM P r c D hs ops Q m rest ((d,v)::sl) rl):lM P r c D hs ops Q (m+1) (⟨some d,.move x,ty,pos,af,none⟩::rest) sl rl:=aA (aP (.of hx)) hd k
theorem bJ {t:TypeId} {i o:Nat} {b k q:Nat} [eQ P t i o] (hx:ev sl x=some (.pointer (some ⟨b,k,none⟩))) (hd:Nat.blt d c.nt=true) (he:k+o=q) (h:Tr c D ((d,.pointer (some ⟨b,q,none⟩))::sl) hs (WL P r ops Q rest)) :
  Tr c D sl hs (WL P r ops Q (⟨some d,.fieldAddr t x i,ty,pos,af,none⟩::rest)):=ab (aq (.of hx) he) hd h
theorem lS {t:TypeId} {i o:Nat} {b k q:Nat} [eQ P t i o] (hx:ev sl x=some (.pointer (some ⟨b,k,none⟩))) (hd:Nat.blt d c.nt=true) (he:k+o=q) (h:lM P r c D hs ops Q m rest ((d,.pointer (some ⟨b,q,none⟩))::sl) rl) :
  lM P r c D hs ops Q (m+1) (⟨some d,.fieldAddr t x i,ty,pos,af,none⟩::rest) sl rl:=aA (aq (.of hx) he) hd h
theorem iQ {j g:Nat} {want q:Bool} (hj:((ops[j]?).bind (·.dst))=some g) (hq:db sl g=some (.bool q)) (hx:ev sl x=some v) (hd:Nat.blt d c.nt=true) (k:Tr c D ((d,gv (q==want) v)::sl) hs (WL P r ops Q rest)) :
  Tr c D sl hs (WL P r ops Q (⟨some d,.move x,ty,pos,af,some (j,want)⟩::rest)):=vM hj hq (fun _=>aP (.of hx)) hd k
theorem gm {p:Prop} {inst:Decidable p} {u v:Code} (hx:ev sl x=some (.bool (decide p))) (ht:p->Tr c D sl hs (WP P r u Q)) (hf:¬ p->Tr c D sl hs (WP P r v Q)):Tr c D sl hs (WP P r (.cond x u v) Q):=Hv (.of hx) ht hf
theorem nj {b:Bool} {p q:Prop} {u v:Code} (hx:ev sl x=some (.bool b)) [hb:BP b p q] (ht:p->Tr c D sl hs (WP P r u Q)) (hf:q->Tr c D sl hs (WP P r v Q)):Tr c D sl hs (WP P r (.cond x u v) Q):=Kw (.of hx) hb ht hf
end
end Go.SL
