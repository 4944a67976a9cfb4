/- Parts of the proof: GkRow GkLoop GkRange GkSlice K1Ty GkSeq GkMake GkTab GkAnyL GkFin. -/
import Derived.Test.YteonnodafmegaaaGreatDoorUM02
import Derived.Laws.AppendOwn
import Derived.Laws.RangeAny
import Derived.Laws.Slices
import Derived.Test.YteonnodafmegaaaGreatDoorProg
import Derived.Laws.MakeOwn
import Derived.Scope
import Derived.Lib.SliceRun
set_option linter.unusedSectionVars false
set_option linter.unusedVariables false
set_option linter.unusedSimpArgs false
namespace Go.SL
open Go
def Rd (w:World) (v:Value) (sz:Nat) (xs:List (List Value)):Prop:=
 ∃ a cap b o,v=.slice a xs.length cap/\xs.length<=cap/\cap<=maxLen/\(xs≠[]->a=some ⟨b,o,none⟩)/\∀ i r,xs[i]? = some r->r.length=sz/\∀ j u,r[j]? = some u->w.cell? ⟨b,o+i*sz+j,none⟩=some u
variable {X:Act->World->Prop} {fp:List Nat} {n sz:Nat} {v:Value} {w:World} {xs:List (List Value)}
theorem Rd.keeps {w w':World} (h:Rd w v sz xs) (hk:aK [] w w'):Rd w' v sz xs:=by
 obtain ⟨a,cap,b,o,h1,h2,HN,h3,h4⟩:=h;refine ⟨a,cap,b,o,h1,h2,HN,h3,fun i r hr=>⟨(h4 i r hr).1,fun j u hu=>?_⟩⟩;have:=(h4 i r hr).2 j u hu;have hb:=World.block_lt_of_cell? w _ this;rw [<- this];simp only [World.cell?];rw [hk.block b hb (by simp)]
theorem Rd.nil (w:World) (sz:Nat):Rd w (.z) sz []:=⟨none,0,0,0,I,Zz _,by unfold maxLen;omega,fun h=>absurd I h,fun i r h=>by simp at h⟩
theorem rd1 {b o i:Nat} {u:Value} (h:∀ i r,xs[i]? = some r->r.length=1/\∀ j u,r[j]? = some u->w.cell? ⟨b,o+i*1+j,none⟩=some u) (hr:xs[i]? = some [u]):w.cell? ⟨b,o+i*1,none⟩=some u:=(h i _ hr).2 0 u I
theorem Mem.dh {c:Cx} {hs hs':List bd} (hm:Mem c hs w) {b:Nat} {cs:List Value} {E:TypeId} {fz:Nat×Nat} (ht:Take hs (SL.bo b (.cells cs.toArray E fz)) hs') {n:Nat} (hn:cs.length=n) (hle:Nat.ble n 1000=true):Rd w (.w b n n) 1 (cs.map fun v=>[v]):=by
 subst hn;have OY:cs.length<=1000:=by simpa using hle
 refine ⟨_,cs.length,b,0,by simp,by simp,by unfold maxLen;omega,fun _=>rfl,fun i r hr=>?_⟩;rw [ZA,Zak] at hr;obtain ⟨v,hv,rfl⟩:=hr;refine ⟨I,fun j u hu=>?_⟩;cases j with
 | zero =>
  simp only [Zav,Option.some.injEq] at hu;subst hu;rw [cell_of_block (hm.bo ht)];simpa using hv
 | succ j=>simp at hu
def row (E:TypeId) (sz:Nat) (v:Value) (n:Nat) (xs:List Value):bd where
 sat h fp:=fp=v.ownBlock.toList/\xs.length=n*sz/\((v=.z/\n=0) \/
  ∃ g cap cur,v=.w g n cap/\h g=some (.cells cur E (0,0))/\n<=cap/\cap<=maxLen/\cur.size=cap*sz/\cur.toList.take (n*sz)=xs)
 loc:=by
  rintro h h' fp ⟨e,hl,h1⟩ hb;refine ⟨e,hl,h1.imp id ?_⟩;rintro ⟨g,cap,cur,rfl,hg,r⟩;exact ⟨g,cap,cur,I,by rw [hb g (by rw [e];simp [Value.ownBlock])];exact hg,r⟩
 own:=by
  rintro h fp ⟨e,hl,h1⟩ b hb;rcases h1 with ⟨rfl,_⟩ | ⟨g,cap,cur,rfl,hg,_⟩
  ·rw [e] at hb;simp [Value.ownBlock] at hb
  ·rw [e] at hb;simp [Value.ownBlock] at hb;subst hb;exact ⟨_,hg⟩
theorem Cg {E:TypeId} {xs:List Value} (h:(row E sz v n xs).sat (hp w) fp):w.ownsRow 0 E sz v n xs:=by
 obtain ⟨_,hl,h1⟩:=h;exact ⟨hl,h1.imp id fun ⟨g,cap,cur,e,hg,r⟩=>⟨g,cap,cur,e,Zi _,hg,r⟩⟩
theorem l9 {E:TypeId} {xs:List Value} (h:w.ownsRow 0 E sz v n xs):(row E sz v n xs).sat (hp w) v.ownBlock.toList:=by
 obtain ⟨hl,h1⟩:=h;exact ⟨I,hl,h1.imp id fun ⟨g,cap,cur,e,_,hg,r⟩=>⟨g,cap,cur,e,hg,r⟩⟩
theorem Mem.Rz {c:Cx} {hs:List bd} (hm:Mem c hs w) (E:TypeId) (sz:Nat):Mem c (row E sz (.z) 0 []::hs) w:=
 Mem.change (As:=[]) (Bs:=[row E sz (.z) 0 []]) hm fun fp _ hf=>by
  rw [show fp=[] from hf];exact ⟨.refl _ _,[],Zao,⟨[],[],I,⟨I,by simp,.inl ⟨I,I⟩⟩,I⟩,by simp⟩
theorem aP {c:Cx} {D:List Nat} {sl:aH} {hs:List bd} (E:TypeId) (sz:Nat) (k:Tr c D sl (row E sz (.z) 0 []::hs) X):Tr c D sl hs X:=fun a w bh=>
 k a w (bh.heap (bh.mem.Rz E sz))
theorem oW {sz j:Nat} {r:List Value} {u:Value}:∀ (xs:List (List Value)) (i:Nat),(∀ r∈xs,r.length=sz)->xs[i]? = some r->r[j]? = some u->xs.flatten[i*sz+j]? = some u
 | [],i,_,hr,_=>by simp at hr
 | x :: xs, 0, hx, hr, hu => by
  simp at hr;subst hr;rw [Zam,ZD (by rw [Zbt,ZH];exact (Zm.1 hu).1),Zbt,ZH];exact hu
 | x :: xs, i + 1, hx, hr, hu => by
  have Qd:=hx x (by simp);rw [Zam,ZJ (by rw [Qd,Zab];omega),Qd,Zab,show i*sz+sz+j-sz=i*sz+j from by omega];exact oW xs i (fun r Vo=>hx r (by simp [Vo])) (by simpa using hr) hu
theorem Ry {E:TypeId} (hx:∀ r∈xs,r.length=sz) (hn:xs.length=n) (h:(row E sz v n xs.flatten).sat (hp w) fp):Rd w v sz xs:=by
 subst hn;obtain ⟨_,hl,h1⟩:=h;rcases h1 with ⟨rfl,hn⟩ | ⟨g,cap,cur,rfl,hg,dp,hm,hsz,fc⟩
 ·have:xs=[]:=Zaw.1 hn;subst this;exact Rd.nil w sz
 ·refine ⟨_,cap,g,0,I,dp,hm,fun _=>rfl,fun i r hr=>⟨hx r (Z1 hr),fun j u hu=>?_⟩⟩;have VS:w.heap[g]? = some (.cells cur E (0,0)):=hg;rw [cell_of_block VS];have YC:=hx r (Z1 hr);have hi:i<xs.length:=(Zm.1 hr).1;have hj:j<sz:=by rw [<- YC];exact (Zm.1 hu).1
  have Qq:xs.flatten[i*sz+j]? = some u:=oW xs i hx hr hu;have aN:i*sz+j<xs.length*sz:=by
   have:(i+1)*sz<=xs.length*sz:=Z4 _ hi;rw [Zab] at this;omega
  rw [<- fc,ZK,if_pos aN] at Qq;simpa using Qq
theorem Mem.qm {c:Cx} {hs hs':List bd} (hm:Mem c hs w) {E:TypeId} {sz:Nat} {v:Value} {n:Nat} {ys:List Value} {xs:List (List Value)} (ht:Take hs (row E sz v n ys) hs') (he:ys=xs.flatten) (hx:∀ r∈xs,r.length=sz) (hn:xs.length=n):Rd w v sz xs:=by
 subst he;obtain ⟨_,fp,_,⟨f1,f2,_,h1,_⟩,_⟩:=hm.take ht;exact Ry hx hn h1
theorem ly {α:Type} (l:List α):(l.map fun v=>[v]).flatten=l:=by
 induction l with
 | nil=>rfl
 | cons x l ih=>simp [ih]
theorem Mem.RJ {c:Cx} {hs hs':List bd} (hm:Mem c hs w) {E:TypeId} {v:Value} {n:Nat} {ys:List Value} (ht:Take hs (row E 1 v n ys) hs') (hn:ys.length=n):Rd w v 1 (ys.map fun u=>[u]):=
 hm.qm ht (ly ys).symm (fun r hr=>by obtain ⟨u,_,rfl⟩:=Zo.1 hr;rfl) (by simpa using hn)
theorem cQ {c:Cx} {D:List Nat} {sl:aH} {hs hs':List bd} {E:TypeId} {xs:List Value} (ht:Take hs (row E sz v n xs) hs') (hn:0<n)
  (k:∀ g cap cur,v=.w g n cap->n<=cap->cap<=maxLen->(xs++cur).length=cap*sz->xs.length=n*sz->Tr c D sl (bo g (.cells (xs++cur).toArray E (0,0))::hs') X):Tr c D sl hs X:=fun a w bh=>by
 have hm:=bh.mem.take (ht.append _);obtain ⟨kk,fp,jv,⟨f1,f2,rfl,⟨e,hl,h1⟩,h2⟩,hb⟩:=hm;rcases h1 with ⟨_,h0⟩ | ⟨g,cap,cur,rfl,hg,dp,sU,hsz,fc⟩
 ·omega
 ·have nI:cur=(xs++cur.toList.drop (n*sz)).toArray:=by
   rw [<- fc,ZV]
  have hlen:(xs++cur.toList.drop (n*sz)).length=cap*sz:=by rw [<- fc,ZV];simpa using hsz
  refine k g cap (cur.toList.drop (n*sz)) I dp sU hlen hl a w (bh.heap ⟨kk,f1++f2,jv,⟨f1,f2,I,⟨?_,?_⟩,h2⟩,hb⟩)
  ·rw [e];rfl
  ·rw [<- nI];exact hg
theorem Mem.NR {c:Cx} {hs:List bd} {E:TypeId} {sz g n cap:Nat} {xs cur:List Value} (hm:Mem c (SL.bo g (.cells (xs++cur).toArray E (0,0))::hs) w) (dp:n<=cap) (sU:cap<=maxLen) (hsz:(xs++cur).length=cap*sz) (hl:xs.length=n*sz):Mem c (row E sz (.w g n cap) n xs::hs) w:=by
 obtain ⟨kk,fp,jv,⟨f1,f2,rfl,⟨e,hg⟩,h2⟩,hb⟩:=hm;refine ⟨kk,f1++f2,jv,⟨f1,f2,I,⟨by rw [e];rfl,hl,.inr ⟨g,cap,_,I,hg,dp,sU,by simpa using hsz,?_⟩⟩,h2⟩,hb⟩;simp [<- hl]
theorem cH {c:Cx} {D:List Nat} {sl:aH} {hs hs':List bd} {E:TypeId} {sz g n cap:Nat} {xs cur:List Value} (ht:Take hs (bo g (.cells (xs++cur).toArray E (0,0))) hs') (dp:n<=cap) (sU:cap<=maxLen) (hsz:(xs++cur).length=cap*sz) (hl:xs.length=n*sz)
  (k:Tr c D sl (row E sz (.w g n cap) n xs::hs') X):Tr c D sl hs X:=fun a w bh=>
 k a w (bh.heap (Mem.NR (bh.mem.take (ht.append _)) dp sU hsz hl))
section
variable {P:Program} {r:Option Nat} {c:Cx} {D:List Nat} {sl:aH} {hs hs':List bd} {ops:Array Oper} {Q:Exit->Act->World->Prop} {d:Nat} {ty:TypeId} {pos:String} {af:Array Edge} {rest:List Oper}
variable {z:Value}
theorem qT {w w':World} {t ty e:TypeId} {i:TypeInfo} (ht:P.underlying t=some (.slice e)) (hi:P.info? e=some i) (hz:i.zero=some z)
  {v v':Value} {n:Nat} {xs:List Value} (rW:w.ownsRow 0 e i.size v n xs) {a:Addr} {m cp:Nat} {news:List Value} (hl:news.length=m*i.size) (rX:∀ j u,news[j]? = some u->w.cell? (a.add j)=some u) (h1:∀ u∈news,u.oneCell'=true)
  (h63:n+m<=maxLen) (gV:(n+m)*i.bytes<=140737488355328) (ja:(Builtin.append_ #[t,t] ty #[v,.slice (some a) m cp]).run P w=.ok v' w'):(v'.ownBlock=v.ownBlock\/v'.ownBlock=some w.heap.size)/\w.drawn<=w'.drawn:=by
 have Yu:n+m<=9223372036854775807:=by simp only [maxLen] at h63;omega
 rcases rW.2 with ⟨rfl,rfl⟩ | ⟨g,cap,cur,rfl,S5,hg,hnc,hcm,Qv,fc⟩
 ·by_cases hm:m=0
  ·subst hm;have hn:news=[]:=Z5 (by simpa using hl);subst hn;have:(Builtin.append_ #[t,t] ty #[.z,.slice (some a) 0 cp]).run P w=.ok (.z) w:=by
    simp [Builtin.append_,aV ht,sizeOf,typeInfo,hi,Builtin.lenOf,Builtin.firstCells,loadCells,loadCellsFrom]
   rw [ja] at this;cases this;exact ⟨.inl I,Zz _⟩
  ·have hr:=run_append_nil (P:=P) w t ty e i z ht hi hz a m cp news hl rX (by omega) (by omega) (by have hb:=gV;simp only [ZH] at hb;omega);rw [ja] at hr;cases hr;exact ⟨.inr I,Nat.le_succ _⟩
 ·by_cases yQ:n+m<=cap
  ·have hfit:n*i.size+news.length<=cur.size:=by rw [hl,Qv,<- Nat.add_mul];exact Z4 _ yQ
   have hr:=run_append_room (P:=P) w t ty e i ht hi g n cap cur hg a m cp news hl rX h1 yQ hfit;rw [ja] at hr;cases hr;exact ⟨.inl I,Zz _⟩
  ·have holds:∀ j u,xs[j]? = some u->w.cell? ((⟨g,0,none⟩:Addr).add j)=some u:=rW.cells (g:=g) I;have hr:=run_append_grow (P:=P) w t ty e i z ht hi hz ⟨g,0,none⟩ n cap xs rW.1 holds a m cp news hl rX (by omega) (by omega) (growslice_fits (by omega) gV);rw [ja] at hr;cases hr;exact ⟨.inr I,Nat.le_succ _⟩
theorem yo {t e:TypeId} {agg:Bool} {size bytes:Nat} {x y:Operand} {v:Value} {n b o m cp:Nat} {xs news:List Value} [hu:ij P t (.slice e)] [hT:Ty P e agg size] [hZ:lU P e z] [hB:u0 P e bytes]
  (hx:Is sl x v) (hy:Is sl y (.slice (some ⟨b,o,none⟩) m cp)) (ht:Take hs (row e size v n xs) hs') (hn:eV c hs b o news) (hl:news.length=m*size) (h1:∀ u∈news,u.oneCell'=true) (hz:z.cells.size=size) (hsz:Nat.blt 0 size=true) (hb0:Nat.blt 0 bytes=true)
  (hb:(n+m)*bytes<=140737488355328) (hd:Nat.blt d c.nt=true)
  (k:∀ v',Tr c D ((d,v')::sl) (row e size v' (n+m) (xs++news)::hs') (WL P r ops Q rest)) :
  Tr c D sl hs (WL P r ops Q (⟨some d,.call ⟨.builtin .append,#[x,y],#[t,t]⟩,ty,pos,af,none⟩::rest)):=fun a w bh=>by
 obtain ⟨de,i,lR,hi,_,hG⟩:=Ty.parts (P:=P) (t:=e) (agg:=agg) (n:=size);have hzero:i.zero=some z:=by have:=hZ.eq;rw [hi] at this;simpa using this
 have gV:i.bytes=bytes:=by have:=hB.eq;rw [hi] at this;simpa using this
 have Xu:=bh.qD;have hm:=bh.mem.take (ht.append _);obtain ⟨kk,fp,jv,⟨f1,f2,rfl,hrow,h2⟩,EW⟩:=hm;have rW:=Cg hrow;have C5:0<bytes:=by simpa using hb0
 have bY:n+m<=maxLen:=by
  have:(n+m)*1<=(n+m)*bytes:=Zbx _ C5;unfold maxLen;omega
 obtain ⟨v',w',ja,rV,wg,_⟩:=run_append_own (P:=P) w 0 t ty e i z size bytes hu.eq hi hzero hG gV hz (by simpa using hsz) v n xs rW ⟨b,o,none⟩ m cp news hl
  (fun j u hj=>by rw [eT];exact hn.get j u hj w Xu) h1 bY hb (Zi _)
 have xI:=qT (P:=P) (t:=t) (ty:=ty) hu.eq hi hzero (by rw [hG];exact rW) (a:=⟨b,o,none⟩) (m:=m) (cp:=cp) (by rw [hG];exact hl) (fun j u hj=>by rw [eT];exact hn.get j u hj w Xu) h1 bY (by rw [gV];exact hb) ja
 refine lY I ⟨dQ _ _ _ _ _,?_⟩;rw [Oper.semAt_eq _ _ _ (by simp)];have:(execOp a.eval ⟨some d,.call ⟨.builtin .append,#[x,y],#[t,t]⟩,ty,pos,af,none⟩).run P w=.ok (.value v') w':=by
  simp [execOp,resolve,invoke,builtin,hx a bh.cZ,hy a bh.cZ,ja]
 rw [this];refine k v' _ _ ((bh.put (by simpa [Z9] using hd) v').heap ?_);have hm:Mem c ([row e size v n xs]++(hs'++nb D)) w:=⟨kk,f1++f2,jv,⟨f1,f2,I,hrow,h2⟩,EW⟩;have:=Mem.change (Bs:=[row e size v' (n+m) (xs++news)]) (w':=w') hm fun fp uP hf=>by
  obtain ⟨g1,g2,e1,hr,e2⟩:=hf;have HF:fp=v.ownBlock.toList:=by rw [e1,show g2=[] from e2,hr.1];simp
  refine ⟨⟨wg.os,wg.tape,wg.output,xI.2,wg.size,fun q hq YS=>wg.block q hq (fun he=>YS ?_)⟩,v'.ownBlock.toList,?_,⟨_,[],by simp,l9 rV,I⟩,fun q hq=>?_⟩
  ·rw [HF,<- he];simp
  ·cases v'.ownBlock <;> simp
  ·have xj:v'.ownBlock=some q:=by simpa [Option.mem_toList] using hq
   rcases xI.1 with h | h
   ·left;rw [HF,<- h,xj];simp
   ·right
    rw [h] at xj;cases xj;exact Zz _
 simpa using this
end
end Go.SL
namespace Go.SL
open Go
def Dz {ι:Type} (c:Cx) (D:List Nat) (Φ:ι->Prop) (sI:ι->aH) (hI:ι->List bd) (μ:ι->Nat) (i:ι):Act->World->Prop:=fun a w=>∃ j,Φ j/\μ j<μ i/\St c D (sI j) (hI j) a w
def zi {ι:Type} (c:Cx) (D:List Nat) (Φ:ι->Prop) (sI:ι->aH) (hI:ι->List bd):Act->World->Prop:=fun a w=>∃ i,Φ i/\St c D (sI i) (hI i) a w
section
variable {P:Program} {r:Option Nat} {c:Cx} {D:List Nat} {sl:aH} {hs hs':List bd} {Q:Exit->Act->World->Prop} {ι:Type} {Φ:ι->Prop} {sI:ι->aH} {hI:ι->List bd} {μ:ι->Nat}
theorem a7 {x:Code} (Φ:ι->Prop) (sI:ι->aH) (hI:ι->List bd) (μ:ι->Nat) (h0:Tr c D sl hs (zi c D Φ sI hI))
  (round:∀ i,Φ i->Tr c D (sI i) (hI i) (WP P r x (Exit.then (Dz c D Φ sI hI μ i) Q))):Tr c D sl hs (WP P r (.loop x) Q):=
 Nn Φ sI hI μ h0 round
def lI (sl:aH):aH->Prop
 | []=>True
 | (t,v)::r=>cX sl t=some v/\lI sl r
theorem lI.get:∀ {js:aH},lI sl js->∀ t v,cX js t=some v->cX sl t=some v
 | [],_,t,v,h=>by cases h
 | (u, x) :: r, ⟨h1, h2⟩, t, v, h => by
  by_cases e:u=t
  ·subst e;rw [fL] at h;cases h;exact h1
  ·rw [fK e] at h;exact lI.get h2 t v h
theorem lI.nil:lI sl []:=trivial
variable {s:ByteArray} {t:Nat} {x:Operand}
theorem lI.cons {v:Value} {r:aH} (h:cX sl t=some v) (k:lI sl r):lI sl ((t,v)::r):=⟨h,k⟩
theorem lI.L5 {v u:Value} {r:aH} (h:cX sl t=some u) (e:u=v) (k:lI sl r):lI sl ((t,v)::r):=⟨e ▸ h,k⟩
theorem St.weaken {js:aH} {hs1 rest:List bd} {a:Act} {w:World} (h:St c D sl hs a w) (hs':lI sl js) (ht:bj hs hs1 rest):St c D js hs1 a w:=by
 refine ⟨?_,h.cZ.sub hs'.get,h.size,h.defers⟩;have h1:=h.mem.jo (ht.append (nb D))
 -- hs1++(rest++nb):forget DF rest
 obtain ⟨k,fp,hn,fV,hb⟩:=h1;obtain ⟨f1,f2,rfl,s1,s2⟩:=cC.append_iff.1 fV;obtain ⟨g1,g2,rfl,s3,s4⟩:=cC.append_iff.1 s2;refine ⟨k,f1++g2,?_,cC.append_iff.2 ⟨f1,g2,I,s1,s4⟩,fun b dF=>hb b ?_⟩
 ·obtain ⟨n1,n2,n3⟩:=ZB.1 hn;obtain ⟨_,n5,_⟩:=ZB.1 n2;exact ZB.2 ⟨n1,n5,fun x hx y hy=>n3 x hx y (ZT _ hy)⟩
 ·rcases Zv.1 dF with h | h
  ·exact ZC _ h
  ·exact ZT _ (ZT _ h)
theorem aL {i:ι} (j:ι) {rest:List bd} (hΦ:Φ j) (hμ:μ j<μ i) (hs1:lI sl (sI j)) (ht:bj hs (hI j) rest):Tr c D sl hs (Dz c D Φ sI hI μ i):=
 fun a w bh=>⟨j,hΦ,hμ,bh.weaken hs1 ht⟩
theorem aI (j:ι) {rest:List bd} (hΦ:Φ j) (hs1:lI sl (sI j)) (ht:bj hs (hI j) rest):Tr c D sl hs (zi c D Φ sI hI):=
 fun a w bh=>⟨j,hΦ,bh.weaken hs1 ht⟩
def Q3 (c:Cx) (D:List Nat) {ι:Type} (Φ:ι->Prop) (sM:ι->aH) (hM:ι->List bd):Act->World->Prop:=fun a w=>∃ x,Φ x/\St c D (sM x) (hM x) a w
theorem Rh {x y:Code} (Φ:ι->Prop) (sM:ι->aH) (hM:ι->List bd) (h1:Tr c D sl hs (WP P r x (Exit.then (Q3 c D Φ sM hM) Q))) (h2:∀ x,Φ x->Tr c D (sM x) (hM x) (WP P r y Q)):Tr c D sl hs (WP P r (.seq x y) Q):=
 vg fun a w bh=>wpIn_mono (h1 a w bh) fun e a' w' h=>by
  cases e with
  | normal=>obtain ⟨x,hx,hs⟩:=h;exact h2 x hx a' w' hs
  | _=>exact h
theorem FA (x:ι) {sM:ι->aH} {hM:ι->List bd} {rest:List bd} (hΦ:Φ x) (h1:lI sl (sM x)) (ht:bj hs (hM x) rest):Tr c D sl hs (Q3 c D Φ sM hM):=fun a w bh=>⟨x,hΦ,bh.weaken h1 ht⟩
variable {ops:Array Oper} {d:Nat} {dst:Option Tmp} {ty:TypeId} {pos:String} {af:Array Edge} {g:Option (Nat×Bool)} {rest:List Oper}
theorem Ha {t:TypeId} [hu:ij P t .string] (hx:Is sl x (.string s)):qZ P c sl hs ⟨dst,.range t x,ty,pos,af,g⟩ (fun b=>.p b) (.stringIter s 0):=
 ⟨by simp,fun a w ha _=>by simp [execOp,hx a ha,Instr.range,aV hu.eq]⟩
theorem IF {b p:Nat} (hx:Is sl x (.p b)) (ht:Take hs (bo b (.stringIter s p)) hs') (hd:Nat.blt d c.nt=true)
  (kt:p<s.size->Tr c D ((d,.tuple [Value.bool true,.q p,.int .i32 (Utf8.decode s p).1].toArray)::sl) (bo b (.stringIter s (p+(Utf8.decode s p).2))::hs') (WL P r ops Q rest))
  (kf:¬ p<s.size->Tr c D ((d,.tuple [Value.bool false].toArray)::sl) (bo b (.stringIter s p)::hs') (WL P r ops Q rest)) :
  Tr c D sl hs (WL P r ops Q (⟨some d,.next x true,ty,pos,af,none⟩::rest)):=fun a w bh=>by
 have hm:=bh.mem.take (ht.append _);have hb:w.heap[b]? = some (.stringIter s p):=hm.bo .here;have aN:=kh (w:=w) hb;refine lY I ⟨dQ _ _ _ _ _,?_⟩;rw [Oper.semAt_eq _ _ _ (by simp)];by_cases h:p<s.size
 ·have:(execOp a.eval ⟨some d,.next x true,ty,pos,af,none⟩).run P w=.ok (.value (.tuple [Value.bool true,.q p,.int .i32 (Utf8.decode s p).1].toArray)) (setBlock w b (.stringIter s (p+(Utf8.decode s p).2))):=by
   simp [execOp,hx a bh.cZ,Instr.next,getObj,setObj,Sem.run,hb,h,goInt,setBlock]
  rw [this];exact kt h _ _ ((bh.put (by simpa [Z9] using hd) _).heap (Mem.store hm (aK.setBlock w b _) (mn aN)))
 ·have:(execOp a.eval ⟨some d,.next x true,ty,pos,af,none⟩).run P w=.ok (.value (.tuple [Value.bool false].toArray)) w:=by
   simp [execOp,hx a bh.cZ,Instr.next,getObj,Sem.run,hb,h]
  rw [this];exact kf h _ _ ((bh.put (by simpa [Z9] using hd) _).heap hm)
structure KeyLaw (kind:TypeDesc) {κ:Type} [DecidableEq κ] (kv:κ->Value):Prop where
 same:∀ a b,Instr.sameNow kind (kv a) (kv b)=some (decide (a=b))
 bits:∀ a,Instr.sameBits 10000 (kv a) (kv a)=true
 flat:∀ (P:Program) (t:TypeId) (e:Bool) (w:World) (a:κ),P.underlying t=some kind->(Instr.checkKey e 10000 t (kv a)).run P w=.ok () w
structure KD {κ:Type} (kv:κ->Value) (l:List (κ×Value)) (es:Array MapEntry) (ck:Nat):Prop where
 eq:es.toList.map (fun e=>(e.key,e.val))=l.map (fun p=>(kv p.1,p.2))
 nd:(es.toList.map (·.born)).Nodup
 lt:∀ x∈es.toList,x.born<ck
def mp {κ:Type} (kv:κ->Value) (b:Nat) (l:List (κ×Value)):bd where
 sat h fp:=fp=[b]/\∃ es clock,h b=some (.map es clock)/\KD kv l es clock
 loc:=fun ⟨e,es,ck,h1,h2⟩ hb=>⟨e,es,ck,by rw [hb _ (by rw [e];simp)];exact h1,h2⟩
 own:=fun ⟨e,es,ck,h1,h2⟩ b' dF=>by rw [e] at dF;rw [ZE.1 dF];exact ⟨_,h1⟩
def eA {κ:Type} [DecidableEq κ] (k:κ):List (κ×Value)->Option Value
 | []=>none
 | (x,v)::r=>if k=x then some v else eA k r
def mX {κ:Type} [DecidableEq κ] (k:κ) (v:Value):List (κ×Value)->List (κ×Value)
 | []=>[(k,v)]
 | (x,u)::r=>if k=x then (x,v)::r else (x,u)::mX k v r
section
variable {κ:Type} [DecidableEq κ] {kv:κ->Value} {kind:TypeDesc}
theorem findNow_spec (hk:KeyLaw kind kv) (k:κ):∀ (es:List MapEntry) (l:List (κ×Value)) (i:Nat),es.map (fun e=>(e.key,e.val))=l.map (fun p=>(kv p.1,p.2)) ->
  (eA k l=none/\Instr.findNow kind (kv k) es i=some none) \/
  (∃ j v,eA k l=some v/\Instr.findNow kind (kv k) es i=some (some (i+j,v))/\j<es.length/\(∃ x,l[j]? = some (x,v)/\x=k)/\∀ u,mX k u l=l.set j (k,u))
 | [],[],i,_=>.inl ⟨rfl,rfl⟩
 | [],_::_,i,h=>by simp at h
 | _::_,[],i,h=>by simp at h
 | e :: es, (x, v) :: l, i, h => by
  simp only [ZZ,List.cons.injEq,Prod.mk.injEq] at h;obtain ⟨⟨h1,h2⟩,h3⟩:=h;have hs:=hk.same k x;unfold Instr.findNow;rw [h1,hs];by_cases e':k=x
  ·subst e';refine .inr ⟨0,v,by simp [eA],by simp [h2],by simp,⟨k,by simp,I⟩,fun u=>by simp [mX]⟩
  ·simp only [e',decide_false];rcases findNow_spec hk k es l (i+1) h3 with ⟨a1,a2⟩ | ⟨j,u,a1,a2,a3,⟨y,a4,a5⟩,a6⟩
   ·exact .inl ⟨by simp [eA,e',a1],a2⟩
   ·exact .inr ⟨j+1,u,by simp [eA,e',a1],by rw [a2];congr 3;omega,by simp;omega,⟨y,by simpa using a4,a5⟩,fun u'=>by simp [mX,e',a6 u']⟩
theorem zg {k:κ} {v:Value}:∀ {l:List (κ×Value)},eA k l=none->mX k v l=l++[(k,v)]
 | [],_=>rfl
 | (x, u) :: r, h => by
  simp only [eA] at h;split at h
  ·cases h
  ·rename_i e;simp [mX,e,zg h]
theorem D1 {t:TypeId} (kv:κ->Value) (hd:Nat.blt d c.nt=true) (k:∀ b,c.w0.heap.size<=b->Tr c D ((d,.map (some b))::sl) (mp kv b []::hs) (WL P r ops Q rest)) :
  Tr c D sl hs (WL P r ops Q (⟨some d,.makeMap t none,ty,pos,af,none⟩::rest)):=
 bu Ek hd fun b hb a w bh=>k b hb a w (bh.heap (by
  obtain ⟨kk,fp,hn,⟨f1,f2,rfl,⟨e,h1⟩,h2⟩,EW⟩:=bh.mem;exact ⟨kk,f1++f2,hn,⟨f1,f2,I,⟨e,#[],0,h1,I,Zao,fun _ h=>by cases h⟩,h2⟩,EW⟩))
def Looks (c:Cx) (hs:List bd) (b:Nat) (kv:κ->Value) (l:List (κ×Value)):Prop:=∀ w,Mem c hs w->∃ es clock,w.heap[b]? = some (.map es clock)/\KD kv l es clock
variable {b:Nat} {k:κ} {l:List (κ×Value)}
theorem Looks.mp (ht:Take hs (SL.mp kv b l) hs'):Looks c hs b kv l:=fun w hm=>by
 obtain ⟨_,fp,_,⟨f1,f2,_,⟨_,es,ck,h1,h2⟩,_⟩,_⟩:=hm.take ht;exact ⟨es,ck,h1,h2⟩
theorem Hb {t kt et:TypeId} {x y:Operand} {z:Value} [hu:ij P t (.map kt et)] [HE:ij P kt kind] [hz:lU P et z] (hk:KeyLaw kind kv) (hx:Is sl x (.map (some b))) (hy:Is sl y (kv k)) (hl:Looks c hs b kv l) :
  cY P c sl hs ⟨dst,.lookup t x y false,ty,pos,af,g⟩ ((eA k l).getD z):=
 ⟨by
   simp,fun a w ha hm=>by
  obtain ⟨es,ck,h1,h2⟩:=hl w hm;have hg:(getObj b).run P w=.ok (.map es ck) w:=by simp [getObj,Sem.run,h1]
  have xq:=hk.flat P kt es.isEmpty w k HE.eq;rcases findNow_spec hk k es.toList l 0 h2.eq with ⟨a1,a2⟩ | ⟨j,v,a1,a2,_⟩
  ·have:(Instr.findKey kt (kv k) es.toList).run P w=.ok none w:=by
    simp [Instr.findKey,aV HE.eq,a2]
   simp [execOp,hx a ha,hy a ha,Instr.lookup,aV hu.eq,hg,xq,this,a1,iC (t:=et) (v:=z)]
  ·have:(Instr.findKey kt (kv k) es.toList).run P w=.ok (some (0+j,v)) w:=by
    simp [Instr.findKey,aV HE.eq,a2]
   simp [execOp,hx a ha,hy a ha,Instr.lookup,aV hu.eq,hg,xq,this,a1]⟩
theorem ni {t kt et:TypeId} {x y v':Operand} {v:Value} [hu:ij P t (.map kt et)] [HE:ij P kt kind] (hk:KeyLaw kind kv) (hx:Is sl x (.map (some b))) (hy:Is sl y (kv k)) (hv:Is sl v' v) (ht:Take hs (mp kv b l) hs')
  (kk:Tr c D sl (mp kv b (mX k v l)::hs') (WL P r ops Q rest)):Tr c D sl hs (WL P r ops Q (⟨none,.mapUpdate t x y v',ty,pos,af,none⟩::rest)):=fun a w bh=>by
 have hm:=bh.mem.take (ht.append _);obtain ⟨kk0,fp,hn,⟨f1,f2,rfl,⟨e,es,ck,h1,h2⟩,h3⟩,EW⟩:=hm;have DO:w.heap[b]? = some (.map es ck):=h1;have hm:Mem c ([mp kv b l]++(hs'++nb D)) w:=⟨kk0,f1++f2,hn,⟨f1,f2,I,⟨e,es,ck,h1,h2⟩,h3⟩,EW⟩;have hg:(getObj b).run P w=.ok (.map es ck) w:=by simp [getObj,Sem.run,DO]
 have AP:∀ o,(setObj b o).run P w=.ok () (setBlock w b o):=fun o=>by simp [setObj,Sem.run,DO,setBlock]
 have xq:=hk.flat P kt false w k HE.eq;have aN:=kh (w:=w) DO;have ja:∃ Pm WG,(execOp a.eval ⟨none,.mapUpdate t x y v',ty,pos,af,none⟩).run P w=.ok .skip (setBlock w b (.map Pm WG))/\KD kv (mX k v l) Pm WG:=by
  rcases findNow_spec hk k es.toList l 0 h2.eq with ⟨a1,a2⟩ | ⟨j,v0,a1,a2,hj,⟨x0,Sm,rfl⟩,qe⟩
  ·have hf:(Instr.findKey kt (kv k) es.toList).run P w=.ok none w:=by
    simp [Instr.findKey,aV HE.eq,a2]
   refine ⟨es.push { key:=kv k,val:=v,born:=ck },ck+1,?_,?_⟩
   ·simp [execOp,hx a bh.cZ,hy a bh.cZ,hv a bh.cZ,Instr.mapUpdate,aV hu.eq,hg,xq,hf,AP]
   ·refine ⟨?_,?_,?_⟩
    ·rw [zg a1];simp [h2.eq]
    ·simp only [Array.toList_push,Zt,ZZ,Zf];refine ZB.2 ⟨h2.nd,by simp,fun x hx y hy e=>?_⟩;obtain ⟨z,hz,rfl⟩:=Zo.1 hx;have:=h2.lt z hz;simp at hy;omega
    ·intro x hx;rw [Array.toList_push,Zv] at hx;rcases hx with hx | hx
     ·have:=h2.lt x hx;omega
     ·simp at hx;subst hx;show ck<ck+1;omega
  ·have hf:(Instr.findKey kt (kv x0) es.toList).run P w=.ok (some (0+j,v0)) w:=by
    simp [Instr.findKey,aV HE.eq,a2]
   have AQ:(es[j]?.map (·.key)).getD (kv x0)=kv x0:=by
    have h5:(es.toList.map (fun e=>(e.key,e.val)))[j]? = some (kv x0,v0):=by rw [h2.eq];simp [Sm]
    rw [ZA] at h5;obtain ⟨e0,BA,Lo⟩:=Zak.1 h5;simp only [Prod.mk.injEq] at Lo;have:es[j]? = some e0:=by simpa using BA
    simp [this,Lo.1]
   have Y9:(Instr.keyThatStays (kv x0) (kv x0)).run P w=.ok (kv x0) w:=by simp [Instr.keyThatStays,hk.bits]
   refine ⟨es.modify j fun e=>{ e with key:=kv x0,val:=v },ck,?_,?_⟩
   ·simp only [execOp,hx a bh.cZ,hy a bh.cZ,hv a bh.cZ,Instr.mapUpdate,Sem.run_bind,aV hu.eq,Result.andThen_ok,hg,xq,hf,ZH,AQ,Y9,AP,Sem.run_pure]
   ·have Qy:((es.modify j fun e=>{ e with key:=kv x0,val:=v }).toList.map (·.born))=es.toList.map (·.born):=by
     rw [Array.toList_modify];apply Zan;intro q;rw [ZA,ZA,ZaX];by_cases T2:j=q
     ·subst T2;cases es.toList[j]? <;> simp
     ·simp [T2]
    refine ⟨?_,by rw [Qy];exact h2.nd,fun x hx=>?_⟩
    rotate_left
    ·have:x.born∈es.toList.map (·.born):=by rw [<- Qy];exact Zo.2 ⟨x,hx,I⟩
     obtain ⟨y,hy,e⟩:=Zo.1 this;rw [<- e];exact h2.lt y hy
    rw [qe];rw [Array.toList_modify];apply Zan;intro q;rw [ZA,ZA,ZaX,List.getElem?_set];have hq:(es.toList.map (fun e=>(e.key,e.val)))[q]? = (l.map (fun p=>(kv p.1,p.2)))[q]?:=by rw [h2.eq]
    rw [ZA,ZA] at hq;have hlen:es.toList.length=l.length:=by have:=congrArg List.length h2.eq;simpa using this
    by_cases T2:j=q
    ·subst T2;have VM:j<l.length:=by rw [<- hlen];exact hj
     have he:es.toList[j]? = some es.toList[j]:=Zc hj;rw [he,if_pos I,if_pos VM];simp
    ·rw [if_neg T2,<- hq];simp [T2]
 obtain ⟨Pm,WG,hr,ee⟩:=ja;refine lY I ⟨dQ _ _ _ _ _,?_⟩;rw [Oper.semAt_eq _ _ _ (by simp),hr];refine kk _ _ (bh.heap ?_);have:=Mem.change (Bs:=[mp kv b (mX k v l)]) (w':=setBlock w b (.map Pm WG)) hm fun fp uP hf=>by
  obtain ⟨g1,g2,e1,Vo,e2⟩:=hf;have HF:fp=[b]:=by rw [e1,show g2=[] from e2,Vo.1];rfl
  subst HF;exact ⟨aK.setBlock w b _,[b],by simp,⟨[b],[],I,⟨I,Pm,WG,mn aN,ee⟩,I⟩,fun q hq=>.inl hq⟩
 simpa using this
end
theorem KM:KeyLaw .string (fun s:ByteArray=>Value.string s) where
 same a b:=by
  simp only [Instr.sameNow];congr 1;rw [beq_toListBytes,uA]
 bits a:=by unfold Instr.sameBits;simp [beq_toListBytes]
 flat P t e w a h:=by unfold Instr.checkKey;simp [aV h]
end
end Go.SL
namespace Go.SL
open Go
def Pk {ι:Type} (Φ:ι->Prop) (A:ι->List bd):bd where
 sat h fp:=∃ x,Φ x/\cC h (A x) fp
 loc:=fun ⟨x,hx,hs⟩ hb=>⟨x,hx,hs.loc hb⟩
 own:=fun ⟨_,_,hs⟩ b hb=>hs.own b hb
section
variable {P:Program} {r:Option Nat} {c:Cx} {D:List Nat} {sl:aH} {hs hs':List bd} {Q:Exit->Act->World->Prop} {ι:Type}
variable {A:ι->List bd} {R:Ending->World->Prop} {f:FuncId} {l:Nat} {pd:Option Code} {post:Bool->bd} {rc:Loop} {s:LoopState}
theorem G8 {tmps:Array Value} {Fk body:Code} {w:World} (h:RoundIn (FR none) 0 P l f tmps Fk body w R):RoundIn (FR r) 0 P l f tmps Fk body w R:=h
variable {ops:Array Oper} {d:Nat} {ty:TypeId} {pos:String} {af:Array Edge} {rest:List Oper}
def gl (rc:Loop) (s:LoopState) (pd:Option Code):Obj:=.loop { rc with state:=s,pending:=pd }
def px (md:List Nat) (w:World) (post:Bool->bd):Ending->World->Prop:=fun e W'=>∃ b,e=.returned (.bool b)/\aK md w W'/\∃ lS:List Nat,lS.Nodup/\(post b).sat (hp W') lS/\∀ x∈lS,x∈md\/w.heap.size<=x
def Fs (P:Program) (l:Nat) (body:Code) (R:Ending->World->Prop):Act->World->Prop:=fun a₁ w₁=>∃ w₂,(Instr.beginRound l).run P w₁=.ok () w₂/\body.wpIn (FR (some l)) 0 P (roundPost P l R) a₁ w₂
theorem mI {body:Code} (ht:Take hs (bo l (gl rc .ready pd)) hs') (k:Tr c D sl (bo l (gl rc .busy pd)::hs') (WP P (some l) body (roundPost P l R))):Tr c D sl hs (Fs P l body R):=fun a w bh=>by
 have hm:=bh.mem.take (ht.append _);have hb:w.heap[l]? = some (gl rc .ready pd):=hm.bo .here;refine ⟨w.putObj l (gl rc .busy pd),run_beginRound (r:={ rc with state:=.ready,pending:=pd }) hb I,k a _ (bh.heap (Mem.store hm ⟨I,I,I,Zz _,by simp,fun k _ hn=>World.putObj_heap_other (by simpa using hn)⟩ (World.putObj_heap_same (kh (w:=w) hb))))⟩
theorem yz {pd jump:Option Code} (ht:Take hs (bo l (gl rc s pd)) hs') {hs2:List bd} (ht2:∀ w,Mem c (bo l (gl rc (if jump.isNone then .ready else .done) jump)::hs') w->∃ fp:List Nat,fp.Nodup/\(post jump.isNone).sat (hp w) fp/\∀ b∈fp,c.w0.heap.size<=b\/b∈c.md)
  {a:Act} {w:World} (bh:St c D sl hs a w):∃ v w',(Instr.endRound l jump).run P w=.ok v w'/\px c.md c.w0 post (.returned v) w':=by
 have _:=hs2;have hm:=bh.mem.take (ht.append _);have hb:w.heap[l]? = some (gl rc s pd):=hm.bo .here;have hk:aK [l] w (w.putObj l (gl rc (if jump.isNone then .ready else .done) jump)):=⟨I,I,I,Zz _,by simp,fun k _ hn=>World.putObj_heap_other (by simpa using hn)⟩
 have k6:=Mem.store hm hk (World.putObj_heap_same (kh (w:=w) hb));refine ⟨.bool jump.isNone,_,run_endRound (r:={ rc with state:=s,pending:=pd }) jump hb,jump.isNone,I,k6.keeps,?_⟩;obtain ⟨fp,h1,h2,h3⟩:=ht2 _ (by have:=k6;rw [<- Zb] at this;exact this.lE);exact ⟨fp,h1,h2,fun b hb=>(h3 b hb).symm⟩
theorem I2 {Φ:ι->Prop} (x:ι) (hx:Φ x) {As rest:List bd} (ht:bj As (A x) rest) {w:World} (hm:Mem c As w):∃ fp:List Nat,fp.Nodup/\(Pk Φ A).sat (hp w) fp/\∀ b∈fp,c.w0.heap.size<=b\/b∈c.md:=by
 obtain ⟨_,fp,hn,fV,hb⟩:=hm.jo ht;obtain ⟨f1,f2,rfl,h1,_⟩:=cC.append_iff.1 fV;exact ⟨f1,(ZB.1 hn).1,⟨x,hx,h1⟩,fun b dF=>hb b (ZC _ dF)⟩
theorem GY {Φ:ι->Prop} (x:ι) {rest:List bd} (Bx:post true=Pk Φ A) (ht:Take hs (bo l (gl rc s pd)) hs') (hx:Φ x) (h2:bj (bo l (gl rc .ready none)::hs') (A x) rest) :
  Tr c D sl hs (roundPost P l (px c.md c.w0 post) .normal):=fun _ _ bh=>
 yz (jump:=none) (hs2:=[]) ht (fun w hm=>by show ∃ fp:List Nat,fp.Nodup/\(post true).sat (hp w) fp/\_;rw [Bx];exact I2 x hx h2 hm) bh
theorem GX {Φ:ι->Prop} (x:ι) {rest:List bd} (Bx:post false=Pk Φ A) (ht:Take hs (bo l (gl rc s pd)) hs') (hx:Φ x) (h2:bj (bo l (gl rc .done (some .ret))::hs') (A x) rest) :
  Tr c D sl hs (roundPost P l (px c.md c.w0 post) .ret):=fun _ _ bh=>
 yz (jump:=some .ret) (hs2:=[]) ht (fun w hm=>by show ∃ fp:List Nat,fp.Nodup/\(post false).sat (hp w) fp/\_;rw [Bx];exact I2 x hx h2 hm) bh
def mw:List (Nat×Value)->aH->aH
 | [],sl=>sl
 | (t,v)::r,sl=>mw r ((t,v)::sl)
theorem yE {nt:Nat}:∀ (ps:List (Nat×Value)) (sl:aH) (tmps:Array Value),bZ sl ⟨tmps,[]⟩->tmps.size=nt->(∀ p∈ps,p.1<nt) ->
  bZ (mw ps sl) ⟨ps.foldl (fun t p=>t.setIfInBounds p.1 p.2) tmps,[]⟩/\(ps.foldl (fun (t:Array Value) p=>t.setIfInBounds p.1 p.2) tmps).size=nt
 | [],sl,tmps,h,hn,_=>⟨h,hn⟩
 | (t, v) :: ps, sl, tmps, h, hn, hp => by
  have h1:=h.put (d:=t) (by show t<tmps.size;rw [hn];exact hp (t,v) (by simp)) v;exact yE ps ((t,v)::sl) (tmps.setIfInBounds t v) h1 (by simpa using hn) (fun q hq=>hp q (by simp [hq]))
theorem zC {g:Operand} {ps:Array Tmp} {Fk body:Code} {first cap:List Value} (hg:Is sl g (.func (.func f) first.toArray cap.toArray)) [bO P f]
  {As:Nat->Loop->List bd} {rest:List bd} {Φ:Nat->Loop->ι->Prop} {own:Nat->Loop->ι->List bd} {st:ι->LoopState} {pd:ι->Option Code}
  (ht:∀ l rc,bj (bo l (gl rc .ready none)::hs) (As l rc) rest) (bh:∀ x,st x≠.busy)
  (hc:∀ l rc,rc.params=ps->rc.assign=Fk->rc.body=body->bZ sl ⟨rc.tmps,[]⟩->rc.tmps.size=c.nt->∀ w fp,Mem c (bo l (gl rc .ready none)::hs) w->fp.Nodup->cC (hp w) (As l rc) fp->(∀ b∈fp,c.w0.heap.size<=b\/b∈c.md) ->
   bb P f (first++[Value.func (Fn.yield l) #[] #[]]++cap) w fp (Φ l rc) (fun _=>Value.tuple #[]) (fun x=>bo l (gl rc (st x) (pd x))::own l rc x))
  (kn:∀ l rc x b,Φ l rc x->pd x=none->Tr c (b::D) sl (own l rc x++rest) (Q .normal))
  (kj:∀ l rc x b j,Φ l rc x->pd x=some j->Tr c (b::D) sl (own l rc x++rest) (WP P none j Q)) :
  Tr c D sl hs (WP P none (.rangeFunc g ps Fk body) Q):=fun a w hs0=>by
 refine wpIn_rangeFunc fun fn _=>?_
 let rc:Loop:={ state:=.ready,pending:=none,fn,tmps:=a.tmps,params:=ps,assign:=Fk,body,defers:=w.heap.size }
 let l:=w.heap.size+1
 let w1:=(w.alloc (.deferred (some []))).alloc (.loop rc)
 have YF:gl rc .ready none=.loop rc:=rfl
 -- DF state behind DF record
 have aG:Mem c (bo w.heap.size (.deferred (some []))::(hs++nb D)) (w.alloc (.deferred (some []))):=hs0.mem.alloc _;have k6:Mem c (bo l (gl rc .ready none)::bo w.heap.size (.deferred (some []))::(hs++nb D)) w1:=by
  have:=aG.alloc (.loop rc);simpa [l,w1,YF] using this
 -- RI: DF record and hs ahead,DF new mark acU DF marks
 have Xt:Mem c ((bo l (gl rc .ready none)::hs)++nb (w.heap.size::D)) w1:=by
  obtain ⟨k,fp,hn,⟨f1,f2,rfl,h1,⟨f3,f4,rfl,h3,h4⟩⟩,hb⟩:=k6;obtain ⟨f5,f6,rfl,h5,h6⟩:=cC.append_iff.1 h4;have jb:(f1++(f3++(f5++f6))).Perm ((f1++f5)++(f3++f6)):=by
   rw [Zh];refine List.Perm.append_left f1 ?_;rw [<- Zh,<- Zh];exact List.perm_append_comm.append_right f6
  refine ⟨k,(f1++f5)++(f3++f6),jb.nodup_iff.1 hn,cC.append_iff.2 ⟨f1++f5,f3++f6,I,⟨f1,f5,I,h1,h5⟩,⟨f3,f6,I,h3,h6⟩⟩,fun b dF=>hb b (jb.mem_iff.2 dF)⟩
 have htk:=ht l rc;obtain ⟨k4,fp,hn,fV,hb⟩:=Xt.jo (htk.append (nb (w.heap.size::D)));obtain ⟨f1,f2,rfl,h1,h2⟩:=cC.append_iff.1 fV;have cJ:=hc l rc I I I hs0.cZ hs0.size w1 f1 Xt.lE (ZB.1 hn).1 h1 (fun b dF=>hb b (ZC _ dF))
 refine ⟨l,[{ target:=.collected w.heap.size,args:=#[] }],w1,{ target:=.fn (.func f) cap.toArray,args:=first.toArray++#[.func (.yield l) #[] #[]] },w1,f,(first++[Value.func (Fn.yield l) #[] #[]]++cap).toArray,w1,run_enterLoop_outer fn a.tmps ps Fk body,?_,fun _ _=>trivial,?_,by simp [FR,Fence.wide],?_⟩
 ·have:=hg a hs0.cZ;simp only [resolve,rangeCall,Deferred.ofValue,this,Sem.run_bind,Sem.run_pure,Result.andThen_ok];simp [Act.eval,l]
 ·simp only [invoke];rw [tz];simp
 ·refine (jm (r:=none) cJ).mono fun e w' ⟨x,he,hx,hk,lS,uP,hs',yU⟩=>?_;subst he;obtain ⟨g1,g2,rfl,OP,rW⟩:=hs';obtain ⟨rfl,hl⟩:=OP;have Gd:w'.heap[l]? = some (gl rc (st x) (pd x)):=hl;refine ⟨pd x,w'.putObj l (gl rc .exhausted (pd x)),run_endLoop (r:={ rc with state:=st x,pending:=pd x }) Gd (bh x),?_⟩
  -- DF state behind it all
  obtain ⟨n1,n2,n12⟩:=ZB.1 hn;have aN:∀ b∈f2,b<w1.heap.size:=fun b dF=>let ⟨o,ho⟩:=h2.own b dF;kh ho
  have hm5:Mem c (bo l (gl rc (st x) (pd x))::(own l rc x++(rest++nb (w.heap.size::D)))) w':=by
   refine ⟨?_,(([l]++g2)++f2),?_,?_,?_⟩
   ·refine ⟨hk.os.trans k4.os,hk.tape.trans k4.tape,hk.output.trans k4.output,ZX k4.dr hk.dr,ZX k4.size hk.size,fun b dF hm=>?_⟩;rw [<- k4.block b dF hm];refine hk.block b (ZaD dF k4.size) (fun hf=>?_);rcases hb b (ZC _ hf) with h | h
    ·omega
    ·exact hm h
   ·refine ZB.2 ⟨uP,n2,fun x hx y hy e=>?_⟩;subst e;rcases yU x hx with h | h
    ·exact n12 x h x hy I
    ·have:=aN x hy;omega
   ·rw [Zh];exact ⟨[l],g2++f2,I,⟨I,hl⟩,cC.append_iff.2 ⟨g2,f2,I,rW,h2.loc fun b dF=>hk.block b (aN b dF) (fun hf=>n12 b hf b dF I)⟩⟩
   ·intro b dF;rcases Zv.1 dF with h | h
    ·rcases yU b h with h | h
     ·exact hb b (ZC _ h)
     ·exact .inl (ZX k4.size h)
    ·exact hb b (ZT _ h)
  have hm6:Mem c ((own l rc x++rest)++nb (w.heap.size::D)) (w'.putObj l (gl rc .exhausted (pd x))):=by
   have:=(Mem.store hm5 (w':=w'.putObj l (gl rc .exhausted (pd x))) ⟨I,I,I,Zz _,by simp,fun k _ hn=>World.putObj_heap_other (by simpa using hn)⟩ (World.putObj_heap_same (kh (w:=w') Gd))).wy
   rwa [Zh]
  have Hx:St c (w.heap.size::D) sl (own l rc x++rest) { a with defers:=[{ target:=.collected w.heap.size,args:=#[] }]++a.defers } (w'.putObj l (gl rc .exhausted (pd x))):=
   ⟨hm6,hs0.cZ,hs0.size,by simp [hs0.defers,mark]⟩
  cases hj:pd x with
  | none=>rw [hj] at Hx;exact kn l rc x w.heap.size hx hj _ _ Hx
  | some j=>rw [hj] at Hx;exact kj l rc x w.heap.size j hx hj _ _ Hx
end
end Go.SL
namespace Go.SL
open Go
section
variable {P:Program} {c:Cx} {sl:aH} {hs:List bd} {dst:Option Tmp} {ty:TypeId} {pos:String} {af:Array Edge} {g:Option (Nat×Bool)}
theorem A6 {t e:TypeId} (hu:ij P t (.slice e)):P.elem t=e:=by simp [Program.elem,hu.eq]
theorem pH {t e:TypeId} (hu:ij P t (.slice e)):P.underlying t=some (.slice (P.elem t)):=by rw [A6 hu];exact hu.eq
variable {a:Option Addr} {agg:Bool} {fz:Nat×Nat} {h:Int} {k:IntKind} {n:Nat} {v:Value} {w:World} {x y:Operand}
theorem value_of {i:Sem Value} (h:i.run P w=.ok v w):(do let x <- i;pure (Next.value x):Sem Next).run P w=.ok (.value v) w:=by
 rw [Sem.run_bind,h];rfl
theorem gF {t e:TypeId} {len cap:Nat} [hu:ij P t (.slice e)] [Ty P e agg n] (hx:Is sl x (.slice a len cap)) (hy:Is sl y (.int k h)) (h0:0<=h) (h1:h<=cap) :
  cY P c sl hs ⟨dst,.slice t x none (some y) none,ty,pos,af,g⟩ (sliced a 0 h.toNat cap n):=
 ⟨by simp,fun ac w ha _=>by
  have:=run_slice_h (P:=P) w t a len cap (pH hu) k h h0 h1;simp only [execOp,hx ac ha,hy ac ha,Option.map];refine value_of ?_;rw [run_sliceAt_slice _ _ _ _ _ _ (pH hu),this,A6 hu,gj (n:=n) (agg:=agg)]
  rfl⟩
theorem np {t e:TypeId} {len cap:Nat} [hu:ij P t (.slice e)] [Ty P e agg n] (hx:Is sl x (.slice a len cap)) (hy:Is sl y (.int k h)) (h0:0<=h) (h1:h<=len) :
  cY P c sl hs ⟨dst,.slice t x (some y) none none,ty,pos,af,g⟩ (sliced a h.toNat len cap n):=
 ⟨by simp,fun ac w ha _=>by
  have:=run_slice_l (P:=P) w t a len cap (pH hu) k h h0 h1;simp only [execOp,hx ac ha,hy ac ha,Option.map];refine value_of ?_;rw [run_sliceAt_slice _ _ _ _ _ _ (pH hu),this,A6 hu,gj (n:=n) (agg:=agg)]
  rfl⟩
theorem bV {t:TypeId} {b o:Nat} {cs vs:List Value} {E:TypeId} {hs':List bd} [Ty P t true n] (hx:Is sl x (.pointer (some ⟨b,o,none⟩))) (ht:Take hs (SL.bo b (.cells cs.toArray E fz)) hs') (hv:eo cs o n=vs) (hl:vs.length=n) :
  cY P c sl hs ⟨dst,.load t x,ty,pos,af,g⟩ (.agg vs.toArray):=jB hx (eV.bo ht hv) hl
theorem bK {r:Option Nat} {D:List Nat} {ops:Array Oper} {Q:Exit->Act->World->Prop} {d:Nat} {rest:List Oper} {hs' hs2:List bd} {t e:TypeId} {size bytes:Nat} {z:Value} {n b o m cp:Nat} {xs news cs:List Value} {E:TypeId} [ij P t (.slice e)] [Ty P e agg size] [lU P e z] [u0 P e bytes]
  (hx:Is sl x v) (hy:Is sl y (.slice (some ⟨b,o,none⟩) m cp)) (ht:Take hs (row e size v n xs) hs') (ht2:Take hs (SL.bo b (.cells cs.toArray E fz)) hs2) (hv:eo cs o (m*size)=news) (hl:news.length=m*size) (h1:∀ u∈news,u.oneCell'=true) (hz:z.cells.size=size) (hsz:Nat.blt 0 size=true) (hb0:Nat.blt 0 bytes=true)
  (hb:(n+m)*bytes<=140737488355328) (hd:Nat.blt d c.nt=true)
  (k:∀ v',Tr c D ((d,v')::sl) (row e size v' (n+m) (xs++news)::hs') (WL P r ops Q rest)) :
  Tr c D sl hs (WL P r ops Q (⟨some d,.call ⟨.builtin .append,#[x,y],#[t,t]⟩,ty,pos,af,none⟩::rest)):=
 yo hx hy ht (eV.bo ht2 hv) hl h1 hz hsz hb0 hb hd k
theorem kQ {fn:Func} {t:Tmp} {T:TypeId} {b o n:Nat} {cs vs:List Value} {E:TypeId} {hs':List bd} (h:fn.results=#[.cell t T]) (hT:Ty P T true n) (hp:cX sl t=some (.pointer (some ⟨b,o,none⟩))) (ht:Take hs (SL.bo b (.cells cs.toArray E fz)) hs') (hv:eo cs o n=vs) (hl:vs.length=n):Ends P fn c sl hs (.agg vs.toArray):=
 Pn h hp (eV.bo ht hv) hl
theorem zD {r:Option Nat} {D:List Nat} {ops:Array Oper} {Q:Exit->Act->World->Prop} {d:Option Tmp} {op:Op} {rest:List Oper} {j gs:Nat} {want:Bool} (hj:((ops[j]?).bind (·.dst))=some gs) (hq:cX sl gs=some (.bool want))
  (k:Tr c D sl hs (WL P r ops Q (⟨d,op,ty,pos,af,none⟩::rest))):Tr c D sl hs (WL P r ops Q (⟨d,op,ty,pos,af,some (j,want)⟩::rest)):=fun a w bh=>by
 have h:=k a w bh;unfold WL at h ⊢;rw [if_pos (by simp [Region.wanted])] at h;rw [kX (o:=⟨d,op,ty,pos,af,some (j,want)⟩) (c0:=true) I hj bh.cZ (by rw [hq];rfl),if_pos (by simp)];exact h
theorem Rd.sliced {len cap sz:Nat} {xs:List (List Value)} (h:Rd w (.slice a len cap) sz xs) {l m:Nat} (hl:l<=m) (hm:m<=len):Rd w (Go.sliced a l m cap sz) sz ((xs.take m).drop l):=by
 obtain ⟨a',ic,b,o,e,h1,h2,h3,h4⟩:=h;cases e;have e:((xs.take m).drop l).length=m-l:=by simp;omega
 by_cases hc:cap=l
 ·refine ⟨a,cap-l,b,o,?_,by omega,by omega,fun hn=>?_,fun i r hr=>?_⟩
  ·simp [Go.sliced,hc,e]
  ·exact absurd (Z5 (by omega)) hn
  ·have:=(Zm.1 hr).1;omega
 ·refine ⟨a.map (·.add (l*sz)),cap-l,b,o+l*sz,?_,by omega,by omega,fun hn=>?_,fun i r hr=>?_⟩
  ·simp [Go.sliced,hc,e]
  ·have hx:xs≠[]:=by intro e;subst e;simp at hn
   rw [h3 hx];by_cases e0:l*sz=0
   ·simp [Addr.add,e0]
   ·simp [Addr.add,e0]
  ·rw [Zbj,ZK] at hr;split at hr
   ·obtain ⟨q1,q2⟩:=h4 _ _ hr;refine ⟨q1,fun j u hu=>?_⟩;have:=q2 j u hu;rw [show o+l*sz+i*sz+j=o+(l+i)*sz+j by rw [Nat.add_mul];omega];exact this
   ·simp at hr
end
end Go.SL
namespace Go.Proofs
open Go Go.SL
open Tryz renaming prog->T_
instance:TM T_:={}
instance:Ty T_ 3 false 1:={}
instance:ij T_ 3 (.int .i64):={}
instance:lU T_ 3 (.q 0):={}
instance:u0 T_ 3 8:={}
instance:Ty T_ 4 false 1:={}
instance:ij T_ 4 (.bool):={}
instance:lU T_ 4 (.bool false):={}
instance:u0 T_ 4 1:={}
instance:Ty T_ 9 false 1:={}
instance:ij T_ 9 (.string):={}
instance:lU T_ 9 (.string ⟨#[]⟩):={}
instance:u0 T_ 9 16:={}
instance:Ty T_ 22 false 1:={}
instance:ij T_ 22 (.slice 118):={}
instance:Ty T_ 23 false 1:={}
instance:ij T_ 23 (.slice 88):={}
instance:Ty T_ 24 false 1:={}
instance:ij T_ 24 (.slice 122):={}
instance:Ty T_ 25 false 1:={}
instance:ij T_ 25 (.slice 180):={}
instance:Ty T_ 27 true 6:={}
instance:lU T_ 27 (.agg #[.q 0,.q 0,.z,.z,.z,.z]):={}
instance:DD T_ 27 [(0,1),(1,1),(2,1),(3,1),(4,1),(5,1)] [.q 0,.q 0,.z,.z,.z,.z]:={}
instance:eb T_ 27 0 0:={}
instance:eb T_ 27 1 1:={}
instance:eb T_ 27 2 2:={}
instance:eb T_ 27 3 3:={}
instance:eb T_ 27 4 4:={}
instance:eb T_ 27 5 5:={}
instance:Ty T_ 29 true 3:={}
instance:eb T_ 29 0 0:={}
instance:eb T_ 29 1 1:={}
instance:eb T_ 29 2 2:={}
instance:Ty T_ 32 false 1:={}
instance:ij T_ 32 (.slice 9):={}
instance:lU T_ 32 (.z):={}
instance:u0 T_ 32 24:={}
instance:Ty T_ 33 false 1:={}
instance:lU T_ 33 (.q 0):={}
instance:Ty T_ 36 false 1:={}
instance:ij T_ 36 (.slice 186):={}
instance:Ty T_ 37 false 1:={}
instance:ij T_ 37 (.slice 90):={}
instance:Ty T_ 38 false 1:={}
instance:ij T_ 38 (.slice 187):={}
instance:Ty T_ 39 false 1:={}
instance:ij T_ 39 (.slice 188):={}
instance:Ty T_ 41 true 6:={}
instance:lU T_ 41 (.agg #[.q 0,.q 0,.z,.z,.z,.z]):={}
instance:DD T_ 41 [(0,1),(1,1),(2,1),(3,1),(4,1),(5,1)] [.q 0,.q 0,.z,.z,.z,.z]:={}
instance:eb T_ 41 0 0:={}
instance:eb T_ 41 1 1:={}
instance:eb T_ 41 2 2:={}
instance:eb T_ 41 3 3:={}
instance:eb T_ 41 4 4:={}
instance:eb T_ 41 5 5:={}
instance:Ty T_ 49 false 1:={}
instance:ij T_ 49 (.slice 3):={}
instance:lU T_ 49 (.z):={}
instance:Ty T_ 66 false 1:={}
instance:ij T_ 66 (.slice 69):={}
instance:Ty T_ 69 true 2:={}
instance:lU T_ 69 (.agg #[.string ⟨#[]⟩,.z]):={}
instance:u0 T_ 69 40:={}
instance:DD T_ 69 [(0,1),(1,1)] [.string ⟨#[]⟩,.z]:={}
instance:eb T_ 69 0 0:={}
instance:eb T_ 69 1 1:={}
instance:Ty T_ 72 false 1:={}
instance:ij T_ 72 (.slice 78):={}
instance:Ty T_ 78 true 2:={}
instance:lU T_ 78 (.agg #[.string ⟨#[]⟩,.z]):={}
instance:u0 T_ 78 40:={}
instance:DD T_ 78 [(0,1),(1,1)] [.string ⟨#[]⟩,.z]:={}
instance:eb T_ 78 0 0:={}
instance:eb T_ 78 1 1:={}
instance:Ty T_ 88 true 3:={}
instance:lU T_ 88 (.agg #[.string ⟨#[]⟩,.q 0,.bool false]):={}
instance:u0 T_ 88 32:={}
instance:eb T_ 88 0 0:={}
instance:eb T_ 88 1 1:={}
instance:eb T_ 88 2 2:={}
instance:Ty T_ 90 true 3:={}
instance:lU T_ 90 (.agg #[.string ⟨#[]⟩,.q 0,.bool false]):={}
instance:u0 T_ 90 32:={}
instance:DD T_ 90 [(0,1),(1,1),(2,1)] [.string ⟨#[]⟩,.q 0,.bool false]:={}
instance:eb T_ 90 0 0:={}
instance:eb T_ 90 1 1:={}
instance:eb T_ 90 2 2:={}
instance:ij T_ 93 (.slice 105):={}
instance:ij T_ 96 (.slice 182):={}
instance:Ty T_ 105 true 2:={}
instance:lU T_ 105 (.agg #[.q 0,.z]):={}
instance:u0 T_ 105 32:={}
instance:eb T_ 105 0 0:={}
instance:eb T_ 105 1 1:={}
instance:Ty T_ 118 true 2:={}
instance:lU T_ 118 (.agg #[.string ⟨#[]⟩,.q 0]):={}
instance:u0 T_ 118 24:={}
instance:eb T_ 118 0 0:={}
instance:eb T_ 118 1 1:={}
instance:Ty T_ 122 true 3:={}
instance:lU T_ 122 (.agg #[.string ⟨#[]⟩,.q 0,.q 0]):={}
instance:u0 T_ 122 32:={}
instance:eb T_ 122 0 0:={}
instance:eb T_ 122 1 1:={}
instance:eb T_ 122 2 2:={}
instance:eb T_ 125 0 0:={}
instance:eb T_ 125 1 1:={}
instance:eb T_ 125 2 2:={}
instance:eb T_ 125 3 3:={}
instance:ij T_ 156 (.slice 32):={}
instance:Ty T_ 180 true 3:={}
instance:lU T_ 180 (.agg #[.q 0,.string ⟨#[]⟩,.string ⟨#[]⟩]):={}
instance:u0 T_ 180 40:={}
instance:DD T_ 180 [(0,1),(1,1),(2,1)] [.q 0,.string ⟨#[]⟩,.string ⟨#[]⟩]:={}
instance:eb T_ 180 0 0:={}
instance:eb T_ 180 1 1:={}
instance:eb T_ 180 2 2:={}
instance:Ty T_ 182 true 2:={}
instance:lU T_ 182 (.agg #[.q 0,.z]):={}
instance:u0 T_ 182 32:={}
instance:DD T_ 182 [(0,1),(1,1)] [.q 0,.z]:={}
instance:eb T_ 182 0 0:={}
instance:eb T_ 182 1 1:={}
instance:Ty T_ 186 true 2:={}
instance:lU T_ 186 (.agg #[.string ⟨#[]⟩,.q 0]):={}
instance:u0 T_ 186 24:={}
instance:DD T_ 186 [(0,1),(1,1)] [.string ⟨#[]⟩,.q 0]:={}
instance:eb T_ 186 0 0:={}
instance:eb T_ 186 1 1:={}
instance:Ty T_ 187 true 3:={}
instance:lU T_ 187 (.agg #[.string ⟨#[]⟩,.q 0,.q 0]):={}
instance:u0 T_ 187 32:={}
instance:DD T_ 187 [(0,1),(1,1),(2,1)] [.string ⟨#[]⟩,.q 0,.q 0]:={}
instance:eb T_ 187 0 0:={}
instance:eb T_ 187 1 1:={}
instance:eb T_ 187 2 2:={}
instance:Ty T_ 188 true 3:={}
instance:lU T_ 188 (.agg #[.q 0,.string ⟨#[]⟩,.string ⟨#[]⟩]):={}
instance:u0 T_ 188 40:={}
instance:DD T_ 188 [(0,1),(1,1),(2,1)] [.q 0,.string ⟨#[]⟩,.string ⟨#[]⟩]:={}
instance:eb T_ 188 0 0:={}
instance:eb T_ 188 1 1:={}
instance:eb T_ 188 2 2:={}
instance:Ty T_ 199 false 1:={}
instance:Ty T_ 220 false 1:={}
instance:lU T_ 220 (.nilFunc):={}
instance:ij T_ 232 (.slice 4):={}
instance:Ty T_ 244 true 2:={}
instance:lU T_ 244 (.agg #[.z,.q 0]):={}
instance:u0 T_ 244 32:={}
instance:DD T_ 244 [(0,1),(1,1)] [.z,.q 0]:={}
instance:eb T_ 244 0 0:={}
instance:eb T_ 244 1 1:={}
instance:Ty T_ 254 false 1:={}
instance:ij T_ 254 (.map 9 257):={}
instance:lU T_ 254 (.map none):={}
instance:Ty T_ 257 true 3:={}
instance:lU T_ 257 (.agg #[.q 0,.q 0,.q 0]):={}
instance:DD T_ 257 [(0,1),(1,1),(2,1)] [.q 0,.q 0,.q 0]:={}
instance:eb T_ 257 0 0:={}
instance:FTy T_ 257 0 0 3:={}
instance:eb T_ 257 1 1:={}
instance:eb T_ 257 2 2:={}
instance:Ty T_ 264 true 2:={}
instance:DD T_ 264 [(0,1),(1,1)] [.string ⟨#[]⟩,.nilFunc]:={}
instance:eb T_ 264 0 0:={}
instance:Ty T_ 265 true 10:={}
instance:ij T_ 265 (.array 5 264):={}
instance:lU T_ 265 (.agg #[.string ⟨#[]⟩,.nilFunc,.string ⟨#[]⟩,.nilFunc,.string ⟨#[]⟩,.nilFunc,.string ⟨#[]⟩,.nilFunc,.string ⟨#[]⟩,.nilFunc]):={}
instance:DD T_ 265 [(0,2),(2,2),(4,2),(6,2),(8,2)] [.string ⟨#[]⟩,.nilFunc,.string ⟨#[]⟩,.nilFunc,.string ⟨#[]⟩,.nilFunc,.string ⟨#[]⟩,.nilFunc,.string ⟨#[]⟩,.nilFunc]:={}
instance:ij T_ 287 (.slice 33):={}
instance:Ty T_ 299 true 2:={}
instance:ij T_ 299 (.array 2 3):={}
instance:lU T_ 299 (.agg #[.q 0,.q 0]):={}
instance:DD T_ 299 [(0,1),(1,1)] [.q 0,.q 0]:={}
instance:ij T_ 318 (.int .u64):={}
instance:Ty T_ 329 false 1:={}
instance:ij T_ 329 (.slice 244):={}
instance:lU T_ 329 (.z):={}
instance:Bt T_ 88 [9,3,4]:={}
instance:Bt T_ 118 [9,3]:={}
instance:Bt T_ 122 [9,3,3]:={}
instance:Bt T_ 180 [3,9,9]:={}
instance:Bt T_ 188 [3,9,9]:={}
instance:Bt T_ 299 [3,3]:={}
instance:bO T_ 17:={}
instance:bO T_ 18:={}
instance:bO T_ 19:={}
instance:bO T_ 20:={}
instance:bO T_ 21:={}
instance:bO T_ 22:={}
instance:bO T_ 23:={}
instance:bO T_ 24:={}
instance:bO T_ 25:={}
instance:bO T_ 26:={}
instance:bO T_ 27:={}
instance:bO T_ 28:={}
instance:bO T_ 29:={}
instance:bO T_ 30:={}
instance:bO T_ 31:={}
instance:bO T_ 32:={}
instance:bO T_ 33:={}
instance:bO T_ 34:={}
instance:bO T_ 35:={}
instance:bO T_ 36:={}
instance:bO T_ 37:={}
instance:bO T_ 38:={}
instance:bO T_ 39:={}
instance:bO T_ 40:={}
instance:bO T_ 41:={}
instance:bO T_ 42:={}
instance:bO T_ 43:={}
instance:bO T_ 44:={}
instance:bO T_ 45:={}
instance:bO T_ 46:={}
instance:bO T_ 47:={}
instance:bO T_ 48:={}
instance:bO T_ 49:={}
instance:bO T_ 50:={}
instance:bO T_ 51:={}
instance:bO T_ 52:={}
instance:bO T_ 53:={}
instance:bO T_ 54:={}
instance:bO T_ 55:={}
instance:bO T_ 56:={}
instance:bO T_ 57:={}
instance:bO T_ 58:={}
instance:bO T_ 59:={}
instance:bO T_ 60:={}
instance:bO T_ 61:={}
instance:bO T_ 62:={}
instance:bO T_ 63:={}
instance:bO T_ 64:={}
instance:bO T_ 65:={}
instance:bO T_ 66:={}
instance:bO T_ 67:={}
instance:bO T_ 68:={}
instance:bO T_ 69:={}
instance:bO T_ 70:={}
instance:bO T_ 71:={}
instance:bO T_ 72:={}
instance:bO T_ 73:={}
instance:bO T_ 74:={}
instance:bO T_ 75:={}
instance:bO T_ 76:={}
instance:bO T_ 77:={}
instance:bO T_ 78:={}
instance:bO T_ 79:={}
instance:bO T_ 80:={}
instance:bO T_ 81:={}
instance:bO T_ 82:={}
instance:bO T_ 83:={}
instance:bO T_ 84:={}
instance:bO T_ 85:={}
instance:bO T_ 105:={}
instance:bO T_ 106:={}
instance:bO T_ 107:={}
instance:bO T_ 108:={}
instance:bO T_ 109:={}
instance:bO T_ 110:={}
instance:bO T_ 111:={}
instance:bO T_ 112:={}
instance:bO T_ 113:={}
instance:bO T_ 114:={}
instance:bO T_ 115:={}
instance:bO T_ 116:={}
instance:bO T_ 117:={}
instance:bO T_ 118:={}
instance:bO T_ 119:={}
instance:bO T_ 120:={}
instance:bO T_ 121:={}
instance:bO T_ 122:={}
instance:bO T_ 123:={}
instance:bO T_ 124:={}
instance:bO T_ 125:={}
instance:bO T_ 126:={}
instance:bO T_ 127:={}
instance:bO T_ 128:={}
instance:bO T_ 129:={}
instance:bO T_ 130:={}
instance:bO T_ 131:={}
instance:bO T_ 132:={}
instance:bO T_ 133:={}
instance:bO T_ 134:={}
instance:bO T_ 135:={}
instance:bO T_ 136:={}
instance:bO T_ 137:={}
instance:bO T_ 138:={}
instance:bO T_ 139:={}
instance:bO T_ 140:={}
instance:bO T_ 141:={}
instance:bO T_ 142:={}
instance:bO T_ 143:={}
instance:bO T_ 144:={}
instance:bO T_ 145:={}
instance:bO T_ 146:={}
instance:bO T_ 147:={}
instance:bO T_ 148:={}
instance:bO T_ 149:={}
instance:bO T_ 150:={}
instance:bO T_ 151:={}
instance:bO T_ 152:={}
instance:bO T_ 153:={}
instance:bO T_ 154:={}
instance:bO T_ 155:={}
instance:bO T_ 156:={}
instance:bO T_ 157:={}
instance:bO T_ 158:={}
instance:bO T_ 159:={}
instance:bO T_ 160:={}
instance:bO T_ 161:={}
instance:bO T_ 162:={}
instance:bO T_ 163:={}
instance:bO T_ 164:={}
instance:bO T_ 165:={}
instance:bO T_ 166:={}
instance:bO T_ 167:={}
instance:bO T_ 168:={}
instance:bO T_ 169:={}
instance:bO T_ 170:={}
instance:bO T_ 171:={}
instance:bO T_ 172:={}
instance:bO T_ 173:={}
instance:bO T_ 174:={}
instance:bO T_ 175:={}
instance:bO T_ 176:={}
instance:bO T_ 177:={}
instance:bO T_ 178:={}
instance:bO T_ 179:={}
instance:bO T_ 180:={}
instance:bO T_ 181:={}
instance:bO T_ 182:={}
instance:bO T_ 183:={}
instance:bO T_ 184:={}
instance:bO T_ 185:={}
instance:bO T_ 186:={}
instance:bO T_ 187:={}
instance:bO T_ 188:={}
instance:bO T_ 189:={}
instance:bO T_ 190:={}
instance:bO T_ 191:={}
instance:bO T_ 192:={}
instance:bO T_ 193:={}
instance:bO T_ 221:={}
instance:bO T_ 222:={}
instance:bO T_ 223:={}
instance:bO T_ 224:={}
instance:bO T_ 225:={}
instance:bO T_ 226:={}
instance:bO T_ 227:={}
instance:bO T_ 228:={}
instance:bO T_ 229:={}
instance:bO T_ 230:={}
instance:bO T_ 231:={}
instance:bO T_ 232:={}
instance:bO T_ 233:={}
instance:bO T_ 234:={}
instance:bO T_ 235:={}
instance:bO T_ 236:={}
instance:bO T_ 237:={}
instance:bO T_ 238:={}
instance:bO T_ 239:={}
instance:bO T_ 240:={}
instance:bO T_ 241:={}
instance:bO T_ 242:={}
instance:bO T_ 243:={}
instance:bO T_ 246:={}
instance:bO T_ 247:={}
instance:bO T_ 248:={}
instance:bO T_ 249:={}
instance:bO T_ 250:={}
instance:bO T_ 251:={}
instance:bO T_ 252:={}
instance:bO T_ 253:={}
instance:bO T_ 254:={}
instance:bO T_ 255:={}
instance:bO T_ 256:={}
instance:bO T_ 257:={}
instance:bO T_ 258:={}
instance:bO T_ 259:={}
instance:bO T_ 260:={}
instance:bO T_ 262:={}
instance:bO T_ 263:={}
instance:bO T_ 264:={}
instance:bO T_ 265:={}
instance:bO T_ 266:={}
instance:bO T_ 267:={}
instance:bO T_ 268:={}
instance:bO T_ 269:={}
instance:bO T_ 270:={}
instance:bO T_ 278:={}
instance:bO T_ 279:={}
instance:bO T_ 297:={}
instance:bO T_ 298:={}
instance:bO T_ 299:={}
instance:bO T_ 300:={}
instance:bO T_ 301:={}
instance:bO T_ 302:={}
instance:bO T_ 314:={}
instance:bO T_ 315:={}
instance:bO T_ 316:={}
instance:bO T_ 317:={}
instance:bO T_ 319:={}
instance:bO T_ 323:={}
instance:bO T_ 324:={}
instance:bO T_ 342:={}
end Go.Proofs
namespace Go.SL
open Go
theorem aK.over {md fp:List Nat} {a b c:World} (h:aK md a b) (hf:∀ x∈fp,x∈md\/a.heap.size<=x) (k:aK fp b c):aK md a c:=
 ⟨k.os.trans h.os,k.tape.trans h.tape,k.output.trans h.output,ZX h.dr k.dr,ZX h.size k.size,fun i hi hm=>by
  rw [<- h.block i hi hm];exact k.block i (ZaD hi h.size) (fun hx=>by
   rcases hf i hx with h1 | h1
   ·exact hm h1
   ·omega)⟩
def Out (md:List Nat) (v:Value) (xs:List (List Value)):Prop:=xs≠[]->∀ b,v.ownBlock=some b->b ∉ md
theorem Out.nil (v:Value) (xs:List (List Value)):Out [] v xs:=fun _ _ _ h=>by cases h
variable {sz:Nat} {v:Value} {xs:List (List Value)}
theorem Rd.jE {md:List Nat} {w w':World} (h:Rd w v sz xs) (hn:Out md v xs) (hk:aK md w w'):Rd w' v sz xs:=by
 obtain ⟨a,cap,b,o,rfl,h2,HN,h3,h4⟩:=h;refine ⟨a,cap,b,o,I,h2,HN,h3,fun i r hr=>⟨(h4 i r hr).1,fun j u hu=>?_⟩⟩;have:=(h4 i r hr).2 j u hu;have hb:=World.block_lt_of_cell? w _ this;have hne:xs≠[]:=by rintro rfl;simp at hr
 rw [<- this];simp only [World.cell?];rw [hk.block b hb (hn hne b (by rw [h3 hne];rfl))]
theorem Rd.out {md fp:List Nat} {w0:World} (h:Rd w0 v sz xs) (hsz:0<sz) (hn:Out md v xs) (hF:∀ b∈fp,b∈md\/w0.heap.size<=b):Out fp v xs:=fun hne b hb O5=>by
 obtain ⟨a,cap,b',o,rfl,h2,HN,h3,h4⟩:=h;have ha:=h3 hne;subst ha;have:b'=b:=by simpa [Value.ownBlock] using hb
 subst this;obtain ⟨r,rs,rfl⟩:=List.exists_cons_of_ne_nil hne;obtain ⟨hl,hc⟩:=h4 0 r rfl;obtain ⟨u,us,rfl⟩:=List.exists_cons_of_ne_nil (l:=r) (by rintro rfl;simp at hl;omega);have aN:=World.block_lt_of_cell? w0 _ (hc 0 u I);rcases hF b' O5 with h | h
 ·exact hn hne b' hb h
 ·exact absurd aN (by simp;omega)
theorem eV.Ds {c:Cx} {hs:List bd} {b o:Nat} {vs:List Value} (h:∀ (j:Nat) (u:Value),vs[j]? = some u->c.w0.cell? ⟨b,o+j,none⟩=some u) (HD:b ∉ c.md):eV c hs b o vs:=
 eV.vK fun j v hv=>At.Ds (h j v hv) HD
def Bm (P:Program) (l:Nat) (args:List Value) (w0:World) (md:List Nat) (pre:bd) (post:Bool->bd):Prop:=
 ∀ W fp, aK md w0 W -> (∀ b ∈ fp, b ∈ md \/ w0.heap.size <= b) -> fp.Nodup -> pre.sat (hp W) fp -> ∃ f tmps Fk body, (Instr.yield l args.toArray).run P W = .ok (.round l f tmps Fk body) W /\
  RoundIn (FR none) 0 P l f tmps Fk body W (px fp W post)
def Iter (P:Program) (f:FuncId) (first cap:List Value) (own:List bd) (items:List (List Value)) (w0:World) (md:List Nat) (w:World):Prop:=
 ∀ (l : Nat) (fp : List Nat) (J : Nat -> bd) (E : bd), aK md w0 w -> (∀ b ∈ fp, b ∈ md \/ w0.heap.size <= b) -> fp.Nodup -> cC (hp w) (J 0 :: own) fp ->
  (∀ k vs,items[k]? = some vs->Bm P l vs w0 md (J k) (fun b=>bif b then J (k+1) else E)) ->
  bb P f (first++[.func (.yield l) #[] #[]]++cap) w fp (fun _:Bool=>True) (fun _=>.tuple #[]) (fun b=>(bif b then J items.length else E)::own)
section
variable {P:Program} {r:Option Nat} {c:Cx} {D:List Nat} {sl:aH} {hs hs':List bd} {Q:Exit->Act->World->Prop} {ι κ:Type}
variable {ops:Array Oper} {d:Nat} {ty:TypeId} {pos:String} {af:Array Edge} {rest:List Oper}
variable {A:ι->List bd} {B:κ->List bd} {W:World} {fp:List Nat} {k l:Nat} {md:List Nat} {nt:Nat} {p:Option Code} {pd:κ->Code} {post:Bool->bd} {rc:Loop} {s:LoopState} {vs:List Value} {w0:World} {Ψ:κ->Prop}
theorem yi {x:Operand} {xs:List Operand} {ts:Array TypeId} {pre:bd} (hB:aK md w0 c.w0) (hF:∀ b∈c.md,b∈md\/w0.heap.size<=b) (hy:Bm P l vs w0 md pre post)
  (hx:Is sl x (.func (.yield l) #[] #[])) (ha:H7 sl xs vs) (hd:Nat.blt d c.nt=true) (ht:Take hs pre hs')
  (k:∀ b,Tr c D ((d,.bool b)::sl) (post b::hs') (WL P r ops Q rest)):Tr c D sl hs (WL P r ops Q (⟨some d,.call ⟨.value x,xs.toArray,ts⟩,ty,pos,af,none⟩::rest)):=fun a w bh=>by
 have hm:=bh.mem.take (ht.append _);obtain ⟨kk,fp,hn,⟨f1,f2,rfl,h1,h2⟩,hb⟩:=hm;obtain ⟨f,tmps,Fk,body,ja,SD⟩:=hy w f1 (hB.over hF kk) (fun b dF=>by
  rcases hb b (ZC _ dF) with h | h
  ·exact .inr (ZX hB.size h)
  ·exact hF b h) (ZB.1 hn).1 h1
 refine lY I ⟨dQ _ _ _ _ _,?_⟩;rw [Oper.semAt_eq _ _ _ (by simp)];have:(execOp a.eval ⟨some d,.call ⟨.value x,xs.toArray,ts⟩,ty,pos,af,none⟩).run P w=.ok (.round l f tmps Fk body) w:=by
  simp only [execOp,resolve,hx a bh.cZ,Deferred.ofValue,Sem.run_bind,Sem.run_pure,Result.andThen_ok,invoke,List.map_toArray,ha.map bh.cZ];simpa using ja
 rw [this];refine ⟨by simp [FR,Fence.wide],(G8 SD).mono fun e w' ⟨b,he,hk,lS,uP,hs1,yU⟩=>?_⟩;subst he;refine k b _ _ ((bh.put (by simpa [Z9] using hd) (.bool b)).heap ?_);obtain ⟨n1,n2,n12⟩:=ZB.1 hn;have aN:∀ b∈f2,b<w.heap.size:=fun b dF=>let ⟨o,ho⟩:=h2.own b dF;kh ho
 refine ⟨?_,lS++f2,?_,⟨lS,f2,I,hs1,h2.loc fun b dF=>?_⟩,?_⟩
 ·refine ⟨hk.os.trans kk.os,hk.tape.trans kk.tape,hk.output.trans kk.output,ZX kk.dr hk.dr,ZX kk.size hk.size,fun b dF hm=>?_⟩;rw [<- kk.block b dF hm];refine hk.block b (ZaD dF kk.size) (fun hf=>?_);rcases hb b (ZC _ hf) with h | h
  ·omega
  ·exact hm h
 ·refine ZB.2 ⟨uP,n2,fun x hx y hy e=>?_⟩;subst e;rcases yU x hx with h | h
  ·exact n12 x h x hy I
  ·have:=aN x hy;omega
 ·exact hk.block b (aN b dF) (fun hf=>n12 b hf b dF I)
 ·intro b dF;rcases Zv.1 dF with h | h
  ·rcases yU b h with h | h
   ·exact hb b (ZC _ h)
   ·exact .inl (ZX kk.size h)
  ·exact hb b (ZT _ h)
theorem DQ {Φ:ι->Prop} {XQ:aH} (vY:bZ XQ ⟨rc.tmps,[]⟩) (hn:rc.tmps.size=nt) (hlen:vs.length=rc.params.size) (hps:∀ t∈rc.params.toList,t<nt)
  (h:∀ x W fp,aK md w0 W->(∀ b∈fp,b∈md\/w0.heap.size<=b)->Φ x->Tr ⟨W,fp,nt⟩ [] (mw (rc.params.toList.zip vs) XQ) (bo l (gl rc .ready none)::A x) (WP P (some l) rc.assign (Exit.then (Fs P l rc.body (px fp W post)) (fun _ _ _=>False)))) :
  Bm P l vs w0 md (Pk Φ fun x=>bo l (gl rc .ready none)::A x) post:=by
 rintro W fp hB hF jv ⟨x,hx,fV⟩;have jk:Mem ⟨W,fp,nt⟩ (bo l (gl rc .ready none)::A x) W:=⟨.refl _ _,fp,jv,fV,fun b hb=>.inr hb⟩
 have hb:W.heap[l]? = some (gl rc .ready none):=jk.bo .here;have hy:=run_yield (P:=P) (w:=W) (l:=l) (r:={ rc with state:=.ready,pending:=none }) (args:=vs.toArray) hb (by simpa using hlen)
 refine ⟨_,_,_,_,hy,?_⟩;refine roundIn_of_wpIn trivial ?_;obtain ⟨g1,g2⟩:=yE (rc.params.toList.zip vs) XQ rc.tmps vY hn (fun p hp=>hps p.1 (by
  obtain ⟨t,v⟩:=p;exact (List.of_mem_zip hp).1))
 have VW:((rc.params.zip vs.toArray).foldl (fun tmps (x:Nat×Value)=>tmps.setIfInBounds x.1 x.2) rc.tmps)=(rc.params.toList.zip vs).foldl (fun (t:Array Value) p=>t.setIfInBounds p.1 p.2) rc.tmps:=by
  rw [<- Array.foldl_toList];simp
 have:=h x W fp hB hF hx ⟨(rc.params.toList.zip vs).foldl (fun (t:Array Value) p=>t.setIfInBounds p.1 p.2) rc.tmps,[]⟩ W ⟨by simpa [nb] using jk,g1,g2,I⟩
 rw [<- VW] at this;exact this
def qb (l:Nat) (rc:Loop) (Φ:Nat->ι->Prop) (A:ι->List bd) (Ψ:κ->Prop) (B:κ->List bd) (pd:κ->Code) (k:Nat) (b:Bool):bd:=
 bif b then Pk (Φ k) (fun x=>bo l (gl rc .ready none)::A x) else Pk Ψ (fun y=>bo l (gl rc .done (some (pd y)))::B y)
theorem jn {g:Operand} {ps:List Tmp} {Fk body:Code} {f:FuncId} {first cap:List Value} [bO P f] (hg:Is sl g (.func (.func f) first.toArray cap.toArray))
  (own:List bd) (items:List (List Value)) (hit:∀ w,Mem c hs w->Iter P f first cap own items c.w0 c.md w)
  (Φ:Nat->ι->Prop) (A:ι->List bd) (Ψ:κ->Prop) (B:κ->List bd) (pd:κ->Code) (x0:ι) {rst:List bd} (h0:Φ 0 x0) (ht:bj hs (A x0++own) rst)
  (hlen:∀ vs∈items,vs.length=ps.length) (hps:∀ t∈ps,t<c.nt)
  (round:∀ l rc W fp k x vs,rc.tmps.size=c.nt->items[k]? = some vs->Φ k x->aK c.md c.w0 W->(∀ b∈fp,b∈c.md\/c.w0.heap.size<=b) ->
   Tr ⟨W,fp,c.nt⟩ [] (mw (ps.zip vs) sl) (bo l (gl rc .ready none)::A x) (WP P (some l) Fk (Exit.then (Fs P l body (px fp W (qb l rc Φ A Ψ B pd (k+1)))) (fun _ _ _=>False))))
  (kn:∀ x D,Φ items.length x->Tr c D sl (A x++own++rst) (Q .normal))
  (kj:∀ y D,Ψ y->Tr c D sl (B y++own++rst) (WP P none (pd y) Q)) :
  Tr c D sl hs (WP P none (.rangeFunc g ps.toArray Fk body) Q):=by
 refine zC (ι:=ι ⊕ κ) hg (As:=fun l rc=>bo l (gl rc .ready none)::(A x0++own)) (rest:=rst)
  (Φ:=fun l rc x=>match x with | .inl x=>Φ items.length x | .inr y=>Ψ y) (own:=fun l rc x=>match x with | .inl x=>A x++own | .inr y=>B y++own)
  (st:=fun x=>match x with | .inl _=>.ready | .inr _=>.done) (pd:=fun x=>match x with | .inl _=>none | .inr y=>some (pd y)) ?_ ?_ ?_ ?_ ?_
 ·exact fun l rc=>bj.h1 ht
 ·rintro (x | y) <;> simp
 ·intro l rc SH ha XD vY hsz w fp hm hn hs1 HF;have aan:∀ b∈fp,b∈c.md\/c.w0.heap.size<=b:=fun b hb=>(HF b hb).symm
  have hs2:cC (hp w) (Pk (Φ 0) (fun x=>bo l (gl rc .ready none)::A x)::own) fp:=by
   rw [<- Zb] at hs1;obtain ⟨f1,f2,rfl,h1,h2⟩:=cC.append_iff.1 hs1;exact ⟨f1,f2,I,⟨x0,h0,h1⟩,h2⟩
  refine (hit w hm.wy l fp (fun k=>Pk (Φ k) (fun x=>bo l (gl rc .ready none)::A x)) (Pk Ψ (fun y=>bo l (gl rc .done (some (pd y)))::B y)) hm.keeps aan hn hs2 ?_).mono ?_
  ·intro k vs hk;refine DQ (post:=qb l rc Φ A Ψ B pd (k+1)) vY hsz (by rw [SH];simpa using hlen vs (Z1 hk)) (by rw [SH];simpa using hps) ?_;intro x W Wr hB hF hx;have:=round l rc W Wr k x vs hsz hk hx hB hF;rw [ha,XD,SH];simpa using this
  ·rintro e w' ⟨b,he,_,hk,lS,uP,hs',yU⟩;obtain ⟨f1,f2,rfl,h1,h2⟩:=hs';cases b with
   | true =>
    obtain ⟨x,hx,h1⟩:=h1;exact ⟨.inl x,he,hx,hk,f1++f2,uP,by
     show cC _ (bo l (gl rc .ready none)::(A x++own)) _;rw [<- Zb];exact cC.append_iff.2 ⟨f1,f2,I,h1,h2⟩,yU⟩
   | false =>
    obtain ⟨y,hy,h1⟩:=h1;exact ⟨.inr y,he,hy,hk,f1++f2,uP,by
     show cC _ (bo l (gl rc .done (some (pd y)))::(B y++own)) _;rw [<- Zb];exact cC.append_iff.2 ⟨f1,f2,I,h1,h2⟩,yU⟩
 ·rintro l rc (x | y) b hx SI
  ·exact kn x (b::D) hx
  ·simp at SI
 ·rintro l rc (x | y) b j hx SI
  ·simp at SI
  ·simp only [Option.some.injEq] at SI;subst SI;exact kj y (b::D) hx
def zj (c:Cx) (Φ:ι->Prop) (sI:ι->aH) (hI:ι->List bd) (μ:ι->Nat) (i:ι):Act->World->Prop:=fun a w=>∃ D j,Φ j/\μ j<μ i/\St c D (sI j) (hI j) a w
def wY (c:Cx) (Φ:ι->Prop) (sI:ι->aH) (hI:ι->List bd):Act->World->Prop:=fun a w=>∃ D i,Φ i/\St c D (sI i) (hI i) a w
theorem FC {x:Code} (Φ:ι->Prop) (sI:ι->aH) (hI:ι->List bd) (μ:ι->Nat)
  (h0:Tr c D sl hs (wY c Φ sI hI))
  (round:∀ i,Φ i->∀ D,Tr c D (sI i) (hI i) (WP P r x (Exit.then (zj c Φ sI hI μ i) Q))) :
  Tr c D sl hs (WP P r (.loop x) Q):=fun a w bh=>by
 let fits:Act->World->Nat->Prop:=fun a w n=>∃ D i,Φ i/\μ i=n/\St c D (sI i) (hI i) a w
 have least:∀ a w,(∃ n,fits a w n)->∃ n,fits a w n/\∀ m,fits a w m->n<=m:=by
  intro a w ⟨n,hn⟩
  induction n using Nat.strongRecOn with
  | _ n ih =>
   by_cases h:∃ m,m<n/\fits a w m
   ·obtain ⟨m,hm,hf⟩:=h;exact ih m hm hf
   ·exact ⟨n,hn,fun m hm=>Zbh fun aN=>h ⟨m,aN,hm⟩⟩
 let M:Act->World->Nat:=fun a w=>Classical.epsilon fun n=>fits a w n/\∀ m,fits a w m->n<=m
 have hM:∀ a w,(∃ n,fits a w n)->fits a w (M a w)/\∀ m,fits a w m->M a w<=m:=fun a w h=>Classical.epsilon_spec (least a w h)
 refine wpIn_loop (fun a w=>∃ n,fits a w n) M ?_ ?_
 ·obtain ⟨D,i,hi,hs⟩:=h0 a w bh;exact ⟨μ i,D,i,hi,I,hs⟩
 ·intro a w hI;obtain ⟨⟨D,i,hi,hm,hs⟩,_⟩:=hM a w hI;refine wpIn_mono (round i hi D a w hs) fun e a' w' h=>?_;cases e with
  | normal =>
   obtain ⟨D',j,hj,aN,hs'⟩:=h;have hf:fits a' w' (μ j):=⟨D',j,hj,I,hs'⟩;exact ⟨⟨_,hf⟩,Nat.lt_of_le_of_lt ((hM a' w' ⟨_,hf⟩).2 _ hf) (by rw [<- hm];exact aN)⟩
  | _=>exact h
theorem BQ {Φ:ι->Prop} {sI:ι->aH} {hI:ι->List bd} {μ:ι->Nat} {i:ι} (j:ι) {rest:List bd} (hΦ:Φ j) (hμ:μ j<μ i) (hs1:lI sl (sI j)) (ht:bj hs (hI j) rest):Tr c D sl hs (zj c Φ sI hI μ i):=
 fun a w bh=>⟨D,j,hΦ,hμ,bh.weaken hs1 ht⟩
theorem yj {Φ:ι->Prop} {sI:ι->aH} {hI:ι->List bd} (j:ι) {rest:List bd} (hΦ:Φ j) (hs1:lI sl (sI j)) (ht:bj hs (hI j) rest):Tr c D sl hs (wY c Φ sI hI):=
 fun a w bh=>⟨D,j,hΦ,bh.weaken hs1 ht⟩
theorem l5 {Φ:Nat->ι->Prop} (x:ι) {rst NQ:List bd}
  (ht:Take hs (bo l (gl rc s p)) rst) (hx:Φ k x) (h2:bj rst (A x) NQ):Tr ⟨W,fp,nt⟩ D sl hs (roundPost P l (px fp W (qb l rc Φ A Ψ B pd k)) .normal):=
 GY (c:=⟨W,fp,nt⟩) (post:=qb l rc Φ A Ψ B pd k) x I ht hx (bj.h1 h2)
theorem Nk {Φ:Nat->ι->Prop} (y:κ) {rst NQ:List bd}
  (SI:pd y=.ret) (ht:Take hs (bo l (gl rc s p)) rst) (hy:Ψ y) (h2:bj rst (B y) NQ):Tr ⟨W,fp,nt⟩ D sl hs (roundPost P l (px fp W (qb l rc Φ A Ψ B pd k)) .ret):=by
 refine GX (c:=⟨W,fp,nt⟩) (post:=qb l rc Φ A Ψ B pd k) (Φ:=Ψ) (A:=fun y=>bo l (gl rc .done (some (pd y)))::B y) y (rest:=NQ) I ht hy ?_;rw [SI];exact bj.h1 h2
end
end Go.SL
namespace Go.SL
open Go
theorem uo {α:Type} {zs:List α} {n i:Nat} (h0:0<zs.length) (hi:i<n*zs.length):(List.replicate n zs).flatten[i]? = zs[i % zs.length]?:=by
 induction n generalizing i with
 | zero=>omega
 | succ n ih =>
  rw [List.replicate_succ,Zam,List.getElem?_append];split
  ·rw [Nat.mod_eq_of_lt (by assumption)]
  ·rw [ih (by rw [Zab] at hi;omega),Nat.mod_eq_sub_mod (a:=i) (by omega)]
theorem vO {z:Array Value} {n:Nat} (h0:0<z.size):(madeCells z (n*z.size))=(List.replicate n z.toList).flatten.toArray:=by
 apply Array.ext';apply Zan;intro i;rw [ZaB];by_cases hi:i<n*z.size
 ·have:=uo (zs:=z.toList) (n:=n) (i:=i) (by simpa using h0) (by simpa using hi);rw [this];simp [madeCells,hi,Nat.mod_lt _ h0]
 ·rw [ZbB (by simp [size_madeCells];omega),Zai (by simp;omega)]
section
variable {P:Program} {c:Cx} {sl:aH} {hs:List bd} {dst:Option Tmp} {ty:TypeId} {pos:String} {af:Array Edge} {g:Option (Nat×Bool)}
theorem FN {t e:TypeId} {agg:Bool} {size bytes l cp:Nat} {z:Value} {x y:Operand} {kx ky:IntKind} [hu:ij P t (.slice e)] [hT:Ty P e agg size] [hZ:lU P e z] [hB:u0 P e bytes]
  (hx:Is sl x (.int kx l)) (hy:Is sl y (.int ky cp)) (hl:l<=cp) (hb:bytes*cp<=281474976710656) (hz:z.cells.size=size) (hsz:Nat.blt 0 size=true) (h63:cp<=9223372036854775807) :
  qZ P c sl hs ⟨dst,.makeSlice t x y,ty,pos,af,g⟩ (fun b=>.w b l cp) (.cells (List.replicate cp z.cells.toList).flatten.toArray e (0,0)):=
 ⟨by simp,fun a w ha _=>by
  obtain ⟨de,i,lR,hi,_,hG⟩:=Ty.parts (P:=P) (t:=e) (agg:=agg) (n:=size);have hzero:i.zero=some z:=by have:=hZ.eq;rw [hi] at this;simpa using this
  have gV:i.bytes=bytes:=by have:=hB.eq;rw [hi] at this;simpa using this
  have hs0:0<size:=by simpa [Z9] using hsz
  have:=run_make (P:=P) w t e i z hu.eq hi hzero kx ky l cp (by omega) (by omega) (by rw [gV];omega) (by omega);have e1:=vO (z:=z.cells) (n:=cp) (by omega);rw [hz] at e1;simp only [execOp,hx a ha,hy a ha];refine (by rw [Sem.run_bind,this];simp only [ZF,hG,e1];rfl)⟩
end
end Go.SL
namespace Go.SL
open Go
def tu (n:Nat) (f:Nat->List Value):List Value:=((List.range n).map f).flatten
variable {f:Nat->List Value}
theorem ir {n sz:Nat} (hf:∀ i,i<n->(f i).length=sz):(tu n f).length=n*sz:=by
 unfold tu
 induction n with
 | zero=>simp
 | succ n ih =>
  rw [List.range_succ,Zt,Zad,Zg,ih (fun i h=>hf i (by omega))]
  simp [hf n (by omega),Zab]
theorem zN {n sz i j:Nat} (hf:∀ i,i<n->(f i).length=sz) (hi:i<n) (hj:j<sz):(tu n f)[i*sz+j]? = (f i)[j]?:=by
 have hl:=hf i hi;obtain ⟨u,hu⟩:∃ u,(f i)[j]? = some u:=⟨(f i)[j]'(by omega),Zc (by omega)⟩;rw [hu];exact oW _ i (fun r hr=>by obtain ⟨k,hk,rfl⟩:=Zo.1 hr;exact hf k (ZP.1 hk)) (by simp [hi]) hu
theorem mJ {n:Nat} {f g:Nat->List Value} (h:∀ i,i<n->f i=g i):tu n f=tu n g:=by
 unfold tu;congr 1;exact Zaq fun i hi=>h i (ZP.1 hi)
theorem gE:∀ (vs cs:List Value) (o k:Nat),o+vs.length<=cs.length->(setCells cs o vs)[k]? = if o<=k/\k<o+vs.length then vs[k-o]? else cs[k]?
 | [], cs, o, k, _ => by
  rw [if_neg (by simp only [Zaj];omega)];rfl
 | v :: vs, cs, o, k, h => by
  simp only [ZI] at h ⊢;rw [setCells,gE vs _ (o+1) k (by simp;omega)];by_cases h1:o+1<=k/\k<o+1+vs.length
  ·rw [if_pos h1,if_pos (by omega),show k-o=(k-(o+1))+1 by omega,ZaY]
  ·rw [if_neg h1];by_cases h2:k=o
   ·subst h2;rw [if_pos (by omega),Nat.sub_self,Zav,List.getElem?_set_self (by omega)]
   ·rw [if_neg (by omega),List.getElem?_set_ne (by omega)]
theorem G5 {n sz k:Nat} (h:k<n*sz):k / sz<n/\k % sz<sz/\k=k / sz*sz+k % sz:=by
 have hs:0<sz:=by
  rcases Nat.eq_zero_or_pos sz with h0 | h0
  ·subst h0;simp at h
  ·exact h0
 refine ⟨Nat.div_lt_of_lt_mul (by rwa [Nat.mul_comm]),Nat.mod_lt _ hs,?_⟩;have:=Nat.div_add_mod k sz;rw [Nat.mul_comm] at this;exact this.symm
theorem Ns {n sz i o:Nat} {vs:List Value} (hf:∀ i,i<n->(f i).length=sz) (hi:i<n) (ho:o+vs.length<=sz) :
  setCells (tu n f) (i*sz+o) vs=tu n (fun k=>if k=i then setCells (f i) o vs else f k):=by
 have hm:(i+1)*sz<=n*sz:=Z4 _ hi;rw [Zab] at hm;have hg:∀ k,k<n->((fun k=>if k=i then setCells (f i) o vs else f k) k).length=sz:=fun k hk=>by
  show (if k=i then _ else _:List Value).length=sz
  split
  ·rw [kr,hf i hi]
  ·exact hf k hk
 have VJ:=ir hf;have Gc:=ir hg;apply Zan;intro k;rw [gE _ _ _ _ (by rw [VJ];omega)];by_cases hk:k<n*sz
 ·obtain ⟨h1,h2,h3⟩:=G5 hk;rw [h3,zN hg h1 h2,zN hf h1 h2];by_cases e:k / sz=i
  ·rw [e];simp only [if_true];rw [gE _ _ _ _ (by rw [hf i hi];omega)];by_cases h4:o<=k % sz/\k % sz<o+vs.length
   ·rw [if_pos h4,if_pos (by omega),show i*sz+k % sz-(i*sz+o)=k % sz-o by omega]
   ·rw [if_neg h4,if_neg (by omega)]
  ·rw [if_neg]
   ·simp only [if_neg e]
   ·intro ⟨h4,h5⟩;rcases Nat.lt_or_gt_of_ne e with e | e
    ·have:(k / sz+1)*sz<=i*sz:=Z4 _ e;rw [Zab] at this;omega
    ·have:(i+1)*sz<=k / sz*sz:=Z4 _ e;rw [Zab] at this;omega
 ·rw [if_neg (by omega),Zai (by omega),Zai (by omega)]
theorem Ea (n:Nat) (f:Nat->List Value):tu n f=((List.range n).map f).flatten:=rfl
theorem At.mW {c:Cx} {hs hs':List bd} {b o:Nat} {cs:List Value} {E:TypeId} {fz:Nat×Nat} {v:Value} (ht:Take hs (SL.bo b (.cells cs.toArray E fz)) hs') (hv:cs[o]? = some v):At c hs b o v:=
 At.bo ht (by simpa using hv)
section
variable {P:Program} {c:Cx} {sl:aH} {hs hs':List bd}
theorem lC {fn:Func} {t u:Tmp} {T:TypeId} {b o n:Nat} {cs vs:List Value} {E:TypeId} {fz:Nat×Nat} {y:Value} (h:fn.results=#[.cell t T,.tmp u]) (hT:Ty P T true n) (hp:cX sl t=some (.pointer (some ⟨b,o,none⟩))) (ht:Take hs (SL.bo b (.cells cs.toArray E fz)) hs') (hv:eo cs o n=vs) (hl:vs.length=n) (hy:cX sl u=some y):Ends P fn c sl hs (.tuple #[.agg vs.toArray,y]):=
 QN (xs:=[.cell t T,.tmp u]) (vs:=[.agg vs.toArray,y]) h (Ij.cons (RV.cell hp (KJ (eV.bo ht hv) hl)) (Ij.cons (RV.tmp hy) Ij.nil)) (by simp)
variable {dst:Option Tmp} {ty:TypeId} {pos:String} {af:Array Edge} {g:Option (Nat×Bool)}
theorem bB {t e:TypeId} {agg:Bool} {n size:Nat} {z:Value} {xs:List (Nat×Operand)} {ps:List (Nat×Value)} {zs cs:List Value} {places:List (Nat×Nat)} [hu:ij P t (.slice e)] [hT:Ty P e agg size] [hZ:lU P e z] (hp:wX sl xs ps)
  (hn:Nat.ble (n*size) 1000=true) (YK:Nat.blt 0 (n*size)=true) (Bw:(List.range n).map (fun i=>(i*size,size))=places) (hzs:(List.range (n*size)).map (fun i=>z.cells[i % z.cells.size]!)=zs) (hf:tR places zs ps=some cs) :
  qZ P c sl hs ⟨dst,.buildSlice t n xs.toArray,ty,pos,af,g⟩ (fun b=>.w b n n) (.cells cs.toArray e):=
 mu (ps:=ps.toArray) (fun a ha=>by have:=hp.map ha;rw [List.map_toArray,this]) (fun w=>by
  have uP:n*size<=1000:=by simpa using hn
  have nQ:0<n*size:=by simpa [Z9] using YK
  unfold Instr.buildSlice;simp only [Sem.run_bind,aV hu.eq,Result.andThen_ok,gj (t:=e) (agg:=agg) (n:=size)];rw [if_neg (by omega),if_neg (by omega)];simp only [Sem.run_bind,iC (t:=e) (v:=z),Result.andThen_ok,Sem.run_pure];have h1:(Array.range (n*size)).map (fun i=>z.cells[i % z.cells.size]!)=zs.toArray:=by
   rw [<- hzs];apply Array.ext';simp
  have h2:=fill_eq (places:=places) (f:=fun i=>if i<n then some (i*size,size) else none) (fun i x hx=>by
   subst Bw;simp only [ZA,Zak] at hx;obtain ⟨k,hk,rfl⟩:=hx;obtain ⟨aN,hk⟩:=Zm.1 hk;simp only [Zbm] at hk;subst hk;simp only [ZaM] at aN;simp [aN]) ps zs cs hf
  have h3:Instr.fill (fun i=>some (i*size,size)) zs.toArray ps=some cs.toArray:=by
   have key:∀ (l:List (Nat×Value)) (cc:Array Value) (r:Array Value),Instr.fill (fun i=>if i<n then some (i*size,size) else none) cc l=some r->Instr.fill (fun i=>some (i*size,size)) cc l=some r:=by
    intro l
    induction l with
    | nil=>intro cc r h;exact h
    | cons x l ih =>
     obtain ⟨i,v⟩:=x;intro cc r h;simp only [Instr.fill] at h ⊢;by_cases hi:i<n
     ·rw [if_pos hi] at h;simp only at h;split at h
      ·cases h
      ·rename_i hc;rw [if_neg hc];exact ih _ _ h
     ·rw [if_neg hi] at h;cases h
   exact key ps zs.toArray cs.toArray h2
  rw [h1,h3];simp [newRow])
theorem aY {D:List Nat} {X:Act->World->Prop} {E:TypeId} {sz n:Nat} {v:Value} {xs:List Value} (ht:Take hs (row E sz v n xs) hs') (k:∀ a cap,v=.slice a n cap->Tr c D sl hs X):Tr c D sl hs X:=fun a w bh=>by
 obtain ⟨_,fp,_,⟨f1,f2,_,h1,_⟩,_⟩:=bh.qD.take ht;obtain ⟨_,_,⟨rfl,rfl⟩ | ⟨g,cap,cur,rfl,_⟩⟩:=h1
 ·exact k _ _ I a w bh
 ·exact k _ _ I a w bh
end
end Go.SL
namespace Go.SL
open Go
def NP (Q:Exit->Act->World->Prop):Exit->Act->World->Prop
 | .panic _=>fun _ _=>False
 | e=>Q e
theorem Oper.vb {F:Fence} {n:Nat} {P:Program} {o:Oper} {a:Act} {w:World} {K K':Act->World->Prop} {Q Q':Exit->Act->World->Prop} (h:∀ a w,K a w->K' a w) (hq:∀ c a w,Q (.panic c) a w->Q' (.panic c) a w) (hl:LetsOut Q->LetsOut Q')
  (hh:o.wpIn F n P a w K Q):o.wpIn F n P a w K' Q':=by
 unfold Oper.wpIn at *;refine ⟨hh.1,?_⟩;have hh:=hh.2;generalize (o.semAt F.round a.eval).run P w=r at *;cases r with
 | ok x w' =>
  cases x <;> simp only [Oper.uponIn] at hh ⊢ <;>
   first
    | exact h _ _ hh
    | exact ⟨hh.1,CallsIn.mono hh.2 (fun e zq he=>by cases e <;> first | exact h _ _ he | exact hq _ _ _ he | exact hl he | exact he)⟩
    | exact ⟨hh.1,RowsIn.mono hh.2 (fun _ _ he=>h _ _ he)⟩
    | exact ⟨hh.1,RoundIn.mono hh.2 (fun e zq he=>by cases e <;> first | exact h _ _ he | exact hq _ _ _ he | exact hl he | exact he)⟩
 | halt x w'=>cases x <;> simp only [Oper.uponIn] at hh ⊢ <;> first | exact hh | exact hq _ _ _ hh
section
variable {P:Program} {r:Option Nat} {c:Cx} {D:List Nat} {sl:aH} {hs hs':List bd} {Q:Exit->Act->World->Prop} {ops:Array Oper} {fuel i:Nat} {listed:Array Bool}
def Left (P:Program) (ops:Array Oper) (Q:Exit->Act->World->Prop) (fuel:Nat) (listed:Array Bool):Act->World->Prop:=wpAnyIn (FR none) 0 P .any ops (NP Q) fuel listed
theorem FB {id:Nat} {l:List Oper} (n:Nat) [rY:TM P] (hn:l.length=n) (k:Tr c D sl hs (Left P l.toArray Q n (Array.replicate n false))):Tr c D sl hs (WP P none (.region id l.toArray true) Q):=fun a w bh=>by
 subst hn;have h:(Code.region id l.toArray true).wpIn (FR none) 0 P (NP Q) a w:=wpIn_region_any rY.eq (by
  have:=k a w.drew (bh.heap bh.mem.drew);simpa [Left] using this)
 exact wpIn_mono h fun e a' w' h=>by
  cases e with
  | panic c=>exact h.elim
  | _=>exact h
theorem dd (i:Nat) {d:Nat} {op:Op} {ty:TypeId} {pos:String} {af:Array Edge} {V:Value} (hi:ops[i]? = some ⟨some d,op,ty,pos,af,none⟩) (hs1:Region.noSelect ops=true) (hf:Region.free .any ops listed i=true) (hr:(Region.ready .any ops listed).contains i=true)
  (Gg:∀ (w:World) (ρ:Operand->Value),Oper.about P w ρ ⟨some d,op,ty,pos,af,none⟩=none) (hv:∀ w,cY P ⟨w,[],0⟩ sl [] ⟨some d,op,ty,pos,af,none⟩ V) (hd:Nat.blt d c.nt=true)
  (k:Tr c D ((d,V)::sl) hs (Left P ops Q fuel (listed.setIfInBounds i true))):Tr c D sl hs (Left P ops Q (fuel+1) listed):=fun a w bh=>by
 refine wpAnyIn_take (oi:=⟨some d,op,ty,pos,af,none⟩) I hi hs1 hf hr (fun c a w h=>h) (v:=V) ⟨.inl ⟨by simp [Region.wanted],fun w'=>?_⟩,fun w'=>Gg w' _⟩ (k _ _ (bh.put (by simpa [Z9] using hd) V));exact (hv w').2 a w' bh.cZ ⟨.refl _ _,[],Zao,I,by simp⟩
def Next (P:Program) (c:Cx) (D:List Nat) (sl:aH) (hs:List bd) (ops:Array Oper) (Q:Exit->Act->World->Prop) (fuel:Nat) (listed:Array Bool) (i:Nat):Prop:=
 ∀ a w,St c D sl hs a w->wpOpIn (FR none) 0 P ops (NP Q) i (Left P ops Q fuel (listed.setIfInBounds i true)) a w
theorem ct {rs:List Nat} (hr:Region.ready .any ops listed=rs) (hne:rs≠[]) (h:∀ i∈rs,Next P c D sl hs ops Q fuel listed i):Tr c D sl hs (Left P ops Q (fuel+1) listed):=fun a w bh=>
 wpAnyIn_all hr hne fun i hi=>h i hi a w bh
theorem cF {d:Option Tmp} {op:Op} {ty:TypeId} {pos:String} {af:Array Edge} {g:Option (Nat×Bool)} (hi:ops[i]? = some ⟨d,op,ty,pos,af,g⟩) (h:Tr c D sl hs (WL P none ops (Exit.then (Left P ops Q fuel (listed.setIfInBounds i true)) (NP Q)) [⟨d,op,ty,pos,af,g⟩])):Next P c D sl hs ops Q fuel listed i:=fun a w bh=>by
 have h1:=h a w bh;unfold wpOpIn;simp only [hi];unfold WL at h1;split
 ·rename_i hw;rw [if_pos hw] at h1;exact Oper.vb (fun a w h=>h) (fun c a w h=>h) (fun h=>h) h1
 ·rename_i hw;rw [if_neg hw] at h1;exact ⟨fun _ _=>trivial,h1⟩
theorem cM (hr:Region.ready .any ops listed=[]) (k:Tr c D sl hs (Q .normal)):Tr c D sl hs (Left P ops Q fuel listed):=fun a w bh=>
 wpAnyIn_done (Q:=NP Q) hr (k a w bh) fuel
theorem ID {x:Code} (h:Tr c D sl hs (WP P none x (Exit.noGoto Q))):Tr c D sl hs (WP P none (.scope x) Q):=fun a w bh=>
 (wpIn_wide (n:=0)).2 (wp_scope_straight ((wpIn_wide (n:=0)).1 (h a w bh)))
theorem sx (h:Tr c D sl hs (Q .ret)):Tr c D sl hs (Exit.noGoto Q .ret):=h
theorem IG {l:Nat} {r:Option Nat} (h:Tr c D sl hs (Q .normal)):Tr c D sl hs (WP P r (.label l) Q):=fun a w bh=>wpIn_label (h a w bh)
variable {dst:Option Tmp} {ty:TypeId} {pos:String} {af:Array Edge} {g:Option (Nat×Bool)}
theorem gN {t u e:TypeId} {x y:Operand} {a:Option Addr} {n cp n' Uh:Nat} [hu:ij P t (.slice e)] (hx:Is sl x (.slice a n cp)) (hy:Is sl y (.slice none n' Uh)):cY P c sl hs ⟨dst,.binOp .eql t x y u,ty,pos,af,g⟩ (.bool a.isNone):=
 iM hx hy fun w=>by
  have h1:(eqGuard .eql t x y (.slice a n cp) (.slice none n' Uh)).run P w=.ok () w:=by simp [eqGuard]
  rw [Sem.run_bind,h1,Result.andThen_ok];exact Go.Lib.run_eql_slice_nil w t e a n cp n' Uh hu.eq
end
end Go.SL
namespace Go.SL
open Go
class BP (b:Bool) (p q:outParam Prop):Prop where
 t:b=true->p
 f:b=false->q
instance (priority:=low) {b:Bool}:BP b (b=true) (b=false):=⟨id,id⟩
instance {p:Prop} {inst:Decidable p}:BP (@decide p inst) p (¬ p):=⟨of_decide_eq_true,of_decide_eq_false⟩
instance {a:Bool} {p q:Prop} [h:BP a p q]:BP (!a) q p:=⟨fun e=>h.f (by simpa using e),fun e=>h.t (by simpa using e)⟩
instance {a b:Bool} {p q p' q':Prop} [h:BP a p q] [h':BP b p' q']:BP (a||b) (p\/p') (q/\q'):=
 ⟨fun e=>(ZQ _ _ ▸ e).elim (fun e=>.inl (h.t e)) (fun e=>.inr (h'.t e)),fun e=>by
  rw [Bool.or_eq_false_iff] at e;exact ⟨h.f e.1,h'.f e.2⟩⟩
instance {a b:Bool} {p q p' q':Prop} [h:BP a p q] [h':BP b p' q']:BP (a&&b) (p/\p') (q\/q'):=
 ⟨fun e=>by
  rw [Zl] at e;exact ⟨h.t e.1,h'.t e.2⟩,fun e=>(Bool.and_eq_false_iff.1 e).elim (fun e=>.inl (h.f e)) (fun e=>.inr (h'.f e))⟩
instance {a:Bool} {p q:Prop} [h:BP a p q]:BP (a==true) p q:=⟨fun e=>h.t (by simpa using e),fun e=>h.f (by simpa using e)⟩
instance {a:Bool} {p q:Prop} [h:BP a p q]:BP (a==false) q p:=⟨fun e=>h.f (by simpa using e),fun e=>h.t (by simpa using e)⟩
theorem dT:∀ u∈([]:List Value),u.oneCell'=true:=fun _ h=>absurd h Zp
theorem aM {v:Value} {vs:List Value} (h:v.oneCell'=true) (t:∀ u∈vs,u.oneCell'=true):∀ u∈v::vs,u.oneCell'=true:=Zw.2 ⟨h,t⟩
theorem TX {n:Int} (h:-9223372036854775808<=n/\n<=9223372036854775807):W6 n:=h
theorem bG {a b:Nat} (h:Nat.ble a b=true):a<=b:=Zay h
theorem ak {α:Type} {a b:α} (h:a=b:=by (first | (simp only [Int.toNat_zero,Int.toNat_one,Int.reduceToNat,tR,setCells,eo,partOf,Value.cells,ue,cond_true,cond_false,Zav,ZaY,List.set_cons_zero,List.set_cons_succ,Zbs,ZI,Zaj,Nat.reduceAdd,Nat.reduceMul,Nat.reduceLeDiff,and_self,and_true,true_and,if_true,List.set,List.length_set,Zz,ZH,Zau];exact I) | exact I)):a=b:=h
theorem ae {α:Type} {a b:α} (h:a=b:=by (first | (simp only [Nat.reduceAdd,ZH,Zau];exact I) | exact I)):a=b:=h
theorem bn {α:Type} {a b:α} (h:a=b:=by (first | (simp only [ZF,ZH,Int.reduceToNat,Int.toNat_zero,Int.toNat_one];exact I) | exact I)):a=b:=h
theorem eQ {α:Type} {a b:α} (h:a=b:=by first | ((try simp only [Za,ZS,Zb]);exact I) | exact I):a=b:=h
theorem bR {α:Type} {a b:α} (h:a=b:=by first | (simp only [List.range,List.range.loop,List.map,Nat.reduceMul];exact I) | exact I):a=b:=h
theorem fa {a b:Nat} (h:a<=b:=by first | omega | (simp only [Zg,ZI,Zaj];omega)):a<=b:=h
theorem iU {α:Type} {a b:α} (h:a=b:=by kernel_rfl):a=b:=h
section
variable {P:Program} {r:Option Nat} {c:Cx} {D:List Nat} {sl:aH} {rl:eU} {hs hs':List bd} {Q:Exit->Act->World->Prop} {ops:Array Oper} {m d:Nat} {dst:Option Tmp} {op:Op} {ty:TypeId} {pos:String} {af:Array Edge} {rest:List Oper}
theorem BS {t:TypeId} (hd:Nat.blt d c.nt=true) (k:∀ b,c.w0.heap.size<=b->Tr c D ((d,.map (some b))::sl) (mp (fun s:ByteArray=>Value.string s) b []::hs) (WL P r ops Q rest)) :
  Tr c D sl hs (WL P r ops Q (⟨some d,.makeMap t none,ty,pos,af,none⟩::rest)):=D1 (fun s:ByteArray=>Value.string s) hd k
variable {V:Value} {p p':Prop} {q want:Bool}
theorem dx {j g:Nat} (hj:((ops[j]?).bind (·.dst))=some g) (hq:cX sl g=some (.bool q)) (hn:(q==want)=false) (hd:Nat.blt d c.nt=true) (k:Tr c D ((d,gv (q==want) (.bool false))::sl) hs (WL P r ops Q rest)) :
  Tr c D sl hs (WL P r ops Q (⟨some d,op,ty,pos,af,some (j,want)⟩::rest)):=vf hj hq (fun e=>absurd (hn.symm.trans e) (by decide)) hd k
theorem IJ {x:Operand} {b:Bool} {p q:Prop} {u v:Code} (hx:Is sl x (.bool b)) (hb:BP b p q)
  (ht:p->Tr c D sl hs (WP P r u Q)) (hf:q->Tr c D sl hs (WP P r v Q)):Tr c D sl hs (WP P r (.cond x u v) Q):=
 FD hx (fun e=>ht (hb.t e)) (fun e=>hf (hb.f e))
theorem lZ {j g:Nat} {want c0 q:Bool} (hj:((ops[j]?).bind (·.dst))=some g) (hq:cX sl g=some (gv c0 (.bool q))) [hb:BP (c0&&(q==want)) p p']
  (hr:(c0&&(q==want))=true->p->cY P c sl hs ⟨some d,op,ty,pos,af,some (j,want)⟩ V) (hd:Nat.blt d c.nt=true) (k:Tr c D ((d,gv (c0&&(q==want)) V)::sl) hs (WL P r ops Q rest)) :
  Tr c D sl hs (WL P r ops Q (⟨some d,op,ty,pos,af,some (j,want)⟩::rest)):=Fz hj hq (fun e=>hr e (hb.t e)) hd k
theorem aF {j g:Nat} (hj:((ops[j]?).bind (·.dst))=some g) (hq:cX sl g=some (.bool q)) [hb:BP (q==want) p p']
  (hr:(q==want)=true->p->cY P c sl hs ⟨some d,op,ty,pos,af,some (j,want)⟩ V) (hd:Nat.blt d c.nt=true) (k:Tr c D ((d,gv (q==want) V)::sl) hs (WL P r ops Q rest)) :
  Tr c D sl hs (WL P r ops Q (⟨some d,op,ty,pos,af,some (j,want)⟩::rest)):=vf hj hq (fun e=>hr e (hb.t e)) hd k
theorem qV {j gs:Nat} {want c0 q:Bool} (hj:((ops[j]?).bind (·.dst))=some gs) (hq:cX sl gs=some (gv c0 (.bool q))) [hb:BP (c0&&(q==want)) p p']
  (hr:(c0&&(q==want))=true->p->cY P c sl hs ⟨some d,op,ty,pos,af,some (j,want)⟩ V) (hd:Nat.blt d c.nt=true) (k:kW P r c D hs ops Q m rest ((d,gv (c0&&(q==want)) V)::sl) rl) :
  kW P r c D hs ops Q (m+1) (⟨some d,op,ty,pos,af,some (j,want)⟩::rest) sl rl:=Dv hj hq (fun e=>hr e (hb.t e)) hd k
theorem dJ {j gs:Nat} (hj:((ops[j]?).bind (·.dst))=some gs) (hq:cX sl gs=some (.bool q)) [hb:BP (q==want) p p']
  (hr:(q==want)=true->p->cY P c sl hs ⟨some d,op,ty,pos,af,some (j,want)⟩ V) (hd:Nat.blt d c.nt=true) (k:kW P r c D hs ops Q m rest ((d,gv (q==want) V)::sl) rl) :
  kW P r c D hs ops Q (m+1) (⟨some d,op,ty,pos,af,some (j,want)⟩::rest) sl rl:=H4 hj hq (fun e=>hr e (hb.t e)) hd k
end
theorem Gy {P:Program} {c:Cx} {sl:aH} {hs:List bd} {fn:Func} {t:Tmp} {T:TypeId} {b o n:Nat} {v:Value} (h:fn.results=#[.cell t T]) (hT:Ty P T false n) (hp:cX sl t=some (.pointer (some ⟨b,o,none⟩))) (hv:At c hs b o v):Ends P fn c sl hs v:=To h hp hv
section
variable {P:Program} {r:Option Nat} {c:Cx} {D:List Nat} {sl:aH} {rl:eU} {hs hs':List bd} {Q:Exit->Act->World->Prop} {ops:Array Oper} {m d:Nat} {op:Op} {ty:TypeId} {pos:String} {af:Array Edge} {rest:List Oper}
variable {N:Act->World->Prop} {id:Nat} {l:List Oper} {v:Value} {x:Operand} {y:Code}
theorem s_r (h:Tr c D sl hs (WL P r l.toArray (Exit.then (WP P r y Q) Q) l)):Tr c D sl hs (WP P r (.seq (.region id l.toArray false) y) Q):=vg (su h)
theorem n_t (h:Tr c D sl hs N):Tr c D sl hs (WL P r ops (Exit.then N Q) []):=h
theorem n_r {Q':Exit->Act->World->Prop} (h:Tr c D sl hs (WL P r l.toArray (Exit.then (WP P r y Q) Q) l)):Tr c D sl hs (WL P r ops (Exit.then (WP P r (.seq (.region id l.toArray false) y) Q) Q') []):=vg (su h)
theorem s_t (h:Tr c D sl hs N):Tr c D sl hs (WP P r .skip (Exit.then N Q)):=zB h
theorem x_t (h:Tr c D sl hs (Q (.exit id))):Tr c D sl hs (WP P r (.exit id) (Exit.then N Q)):=No h
theorem r_t (h:Tr c D sl hs (Q .ret)):Tr c D sl hs (WP P r .ret (Exit.then N Q)):=IE h
theorem xi (hx:ev sl x=some v) (hd:Nat.blt d c.nt=true) (k:Tr c D ((d,v)::sl) hs (WL P r ops Q rest)):Tr c D sl hs (WL P r ops Q (⟨some d,.move x,ty,pos,af,none⟩::rest)):=ab (aX (.of hx)) hd k
theorem a_s (hx:ev sl x=some v) (hd:Nat.blt d c.nt=true) (k:Tr c D ((d,v)::sl) hs (WL P r ops Q rest)):Tr c D sl hs (WL P r ops Q (⟨some d,.assign x,ty,pos,af,none⟩::rest)):=ab (cS (.of hx)) hd k
theorem lH (hx:ev sl x=some v) (hd:Nat.blt d c.nt=true) (k:kW P r c D hs ops Q m rest ((d,v)::sl) rl):kW P r c D hs ops Q (m+1) (⟨some d,.move x,ty,pos,af,none⟩::rest) sl rl:=aO (aX (.of hx)) hd k
theorem bP {t:TypeId} {i o:Nat} {b k q:Nat} [eb P t i o] (hx:ev sl x=some (.pointer (some ⟨b,k,none⟩))) (hd:Nat.blt d c.nt=true) (he:k+o=q) (h:Tr c D ((d,.pointer (some ⟨b,q,none⟩))::sl) hs (WL P r ops Q rest)) :
  Tr c D sl hs (WL P r ops Q (⟨some d,.fieldAddr t x i,ty,pos,af,none⟩::rest)):=ab (az (.of hx) he) hd h
theorem pt {t:TypeId} {i o:Nat} {b k q:Nat} [eb P t i o] (hx:ev sl x=some (.pointer (some ⟨b,k,none⟩))) (hd:Nat.blt d c.nt=true) (he:k+o=q) (h:kW P r c D hs ops Q m rest ((d,.pointer (some ⟨b,q,none⟩))::sl) rl) :
  kW P r c D hs ops Q (m+1) (⟨some d,.fieldAddr t x i,ty,pos,af,none⟩::rest) sl rl:=aO (az (.of hx) he) hd h
theorem iT {j g:Nat} {want q:Bool} (hj:((ops[j]?).bind (·.dst))=some g) (hq:cX sl g=some (.bool q)) (hx:ev sl x=some v) (hd:Nat.blt d c.nt=true) (k:Tr c D ((d,gv (q==want) v)::sl) hs (WL P r ops Q rest)) :
  Tr c D sl hs (WL P r ops Q (⟨some d,.move x,ty,pos,af,some (j,want)⟩::rest)):=vf hj hq (fun _=>aX (.of hx)) hd k
theorem gB {p:Prop} {inst:Decidable p} {u v:Code} (hx:ev sl x=some (.bool (decide p))) (ht:p->Tr c D sl hs (WP P r u Q)) (hf:¬ p->Tr c D sl hs (WP P r v Q)):Tr c D sl hs (WP P r (.cond x u v) Q):=G0 (.of hx) ht hf
theorem qv {b:Bool} {p q:Prop} {u v:Code} (hx:ev sl x=some (.bool b)) [hb:BP b p q] (ht:p->Tr c D sl hs (WP P r u Q)) (hf:q->Tr c D sl hs (WP P r v Q)):Tr c D sl hs (WP P r (.cond x u v) Q):=IJ (.of hx) hb ht hf
end
end Go.SL
