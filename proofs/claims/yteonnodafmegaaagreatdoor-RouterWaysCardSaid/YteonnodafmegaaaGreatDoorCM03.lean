/- Parts of the proof: GkRow GkLoop GkRange GkSlice K1Ty GkSeq GkMake GkTab GkAnyL GkFin. -/
import Derived.Test.YteonnodafmegaaaGreatDoorCM02
import Derived.Laws.AppendOwn
import Derived.Laws.RangeAny
import Derived.Laws.Slices
import Derived.Test.YteonnodafmegaaaGreatDoorProg
import Derived.Laws.MakeOwn
import Derived.Scope
import Derived.Lib.SliceRun
set_option linter.unusedSectionVars false
set_option linter.unusedVariables false
set_option linter.unusedSimpArgs false
namespace Go.SL
open Go
def Rd (w:World) (v:Value) (sz:Nat) (xs:List (List Value)):Prop:=
 ∃ a cap b o,v=.slice a xs.length cap/\xs.length<=cap/\cap<=maxLen/\(xs≠[]->a=some ⟨b,o,none⟩)/\∀ i r,xs[i]? = some r->r.length=sz/\∀ j u,r[j]? = some u->w.cell? ⟨b,o+i*sz+j,none⟩=some u
theorem Rd.keeps {w w':World} {v:Value} {sz:Nat} {xs:List (List Value)} (h:Rd w v sz xs) (hk:aD [] w w'):Rd w' v sz xs:=by
 obtain ⟨a,cap,b,o,h1,h2,Gv,h3,h4⟩:=h;refine ⟨a,cap,b,o,h1,h2,Gv,h3,fun i r hr=>⟨(h4 i r hr).1,fun j u hu=>?_⟩⟩;have:=(h4 i r hr).2 j u hu;have hb:=World.block_lt_of_cell? w _ this;rw [<- this];simp only [World.cell?];rw [hk.block b hb (by simp)]
theorem Rd.nil (w:World) (sz:Nat):Rd w (.slice none 0 0) sz []:=⟨none,0,0,0,I,Nat.le_refl _,by unfold maxLen;omega,fun h=>absurd I h,fun i r h=>by simp at h⟩
theorem YU {w:World} {b o i:Nat} {xs:List (List Value)} {u:Value} (h:∀ i r,xs[i]? = some r->r.length=1/\∀ j u,r[j]? = some u->w.cell? ⟨b,o+i*1+j,none⟩=some u) (hr:xs[i]? = some [u]):w.cell? ⟨b,o+i*1,none⟩=some u:=(h i _ hr).2 0 u I
theorem Mem.df {c:Cx} {hs hs':List a8} {w:World} (hm:Mem c hs w) {b:Nat} {cs:List Value} {E:TypeId} {fz:Nat×Nat} (ht:Take hs (SL.bC b (.cells cs.toArray E fz)) hs') {n:Nat} (hn:cs.length=n) (hle:Nat.ble n 1000=true):Rd w (.slice (some ⟨b,0,none⟩) n n) 1 (cs.map fun v=>[v]):=by
 subst hn;have Nx:cs.length<=1000:=by simpa using hle
 refine ⟨_,cs.length,b,0,by simp,by simp,by unfold maxLen;omega,fun _=>rfl,fun i r hr=>?_⟩;rw [List.getElem?_map,Option.map_eq_some_iff] at hr;obtain ⟨v,hv,rfl⟩:=hr;refine ⟨I,fun j u hu=>?_⟩;cases j with
 | zero =>
  simp only [List.getElem?_cons_zero,Option.some.injEq] at hu;subst hu;rw [cell_of_block (hm.bC ht)];simpa using hv
 | succ j=>simp at hu
def row (E:TypeId) (sz:Nat) (v:Value) (n:Nat) (xs:List Value):a8 where
 sat h fp:=fp=v.ownBlock.toList/\xs.length=n*sz/\((v=.slice none 0 0/\n=0) \/
  ∃ g cap cur,v=.slice (some ⟨g,0,none⟩) n cap/\h g=some (.cells cur E (0,0))/\n<=cap/\cap<=maxLen/\cur.size=cap*sz/\cur.toList.take (n*sz)=xs)
 loc:=by
  rintro h h' fp ⟨e,hl,h1⟩ hb;refine ⟨e,hl,h1.imp id ?_⟩;rintro ⟨g,cap,cur,rfl,hg,r⟩;exact ⟨g,cap,cur,I,by rw [hb g (by rw [e];simp [Value.ownBlock])];exact hg,r⟩
 own:=by
  rintro h fp ⟨e,hl,h1⟩ b hb;rcases h1 with ⟨rfl,_⟩ | ⟨g,cap,cur,rfl,hg,_⟩
  ·rw [e] at hb;simp [Value.ownBlock] at hb
  ·rw [e] at hb;simp [Value.ownBlock] at hb;subst hb;exact ⟨_,hg⟩
theorem vf {w:World} {E:TypeId} {sz:Nat} {v:Value} {n:Nat} {xs:List Value} {fp:List Nat} (h:(row E sz v n xs).sat (hp w) fp):w.ownsRow 0 E sz v n xs:=by
 obtain ⟨_,hl,h1⟩:=h;exact ⟨hl,h1.imp id fun ⟨g,cap,cur,e,hg,r⟩=>⟨g,cap,cur,e,Zi _,hg,r⟩⟩
theorem ke {w:World} {E:TypeId} {sz:Nat} {v:Value} {n:Nat} {xs:List Value} (h:w.ownsRow 0 E sz v n xs):(row E sz v n xs).sat (hp w) v.ownBlock.toList:=by
 obtain ⟨hl,h1⟩:=h;exact ⟨I,hl,h1.imp id fun ⟨g,cap,cur,e,_,hg,r⟩=>⟨g,cap,cur,e,hg,r⟩⟩
theorem Mem.Qk {c:Cx} {hs:List a8} {w:World} (hm:Mem c hs w) (E:TypeId) (sz:Nat):Mem c (row E sz (.slice none 0 0) 0 []::hs) w:=
 Mem.change (As:=[]) (Bs:=[row E sz (.slice none 0 0) 0 []]) hm fun fp _ hf=>by
  rw [show fp=[] from hf];exact ⟨.refl _ _,[],List.nodup_nil,⟨[],[],I,⟨I,by simp,.inl ⟨I,I⟩⟩,I⟩,by simp⟩
theorem aP {c:Cx} {D:List Nat} {sl:aI} {hs:List a8} {X:Act->World->Prop} (E:TypeId) (sz:Nat) (k:Tr c D sl (row E sz (.slice none 0 0) 0 []::hs) X):Tr c D sl hs X:=fun a w a7=>
 k a w (a7.heap (a7.mem.Qk E sz))
theorem pg {sz j:Nat} {r:List Value} {u:Value}:∀ (xs:List (List Value)) (i:Nat),(∀ r∈xs,r.length=sz)->xs[i]? = some r->r[j]? = some u->xs.flatten[i*sz+j]? = some u
 | [],i,_,hr,_=>by simp at hr
 | x :: xs, 0, hx, hr, hu => by
  simp at hr;subst hr;rw [List.flatten_cons,List.getElem?_append_left (by rw [Nat.zero_mul,Nat.zero_add];exact (List.getElem?_eq_some_iff.1 hu).1),Nat.zero_mul,Nat.zero_add];exact hu
 | x :: xs, i + 1, hx, hr, hu => by
  have OZ:=hx x (by simp);rw [List.flatten_cons,List.getElem?_append_right (by rw [OZ,Nat.succ_mul];omega),OZ,Nat.succ_mul,show i*sz+sz+j-sz=i*sz+j from by omega];exact pg xs i (fun r LA=>hx r (by simp [LA])) (by simpa using hr) hu
theorem Qj {w:World} {E:TypeId} {sz:Nat} {v:Value} {n:Nat} {xs:List (List Value)} {fp:List Nat} (hx:∀ r∈xs,r.length=sz) (hn:xs.length=n) (h:(row E sz v n xs.flatten).sat (hp w) fp):Rd w v sz xs:=by
 subst hn;obtain ⟨_,hl,h1⟩:=h;rcases h1 with ⟨rfl,hn⟩ | ⟨g,cap,cur,rfl,hg,c8,hm,hsz,dI⟩
 ·have:xs=[]:=List.length_eq_zero_iff.1 hn;subst this;exact Rd.nil w sz
 ·refine ⟨_,cap,g,0,I,c8,hm,fun _=>rfl,fun i r hr=>⟨hx r (List.mem_of_getElem? hr),fun j u hu=>?_⟩⟩;have Ux:w.heap[g]? = some (.cells cur E (0,0)):=hg;rw [cell_of_block Ux];have T2:=hx r (List.mem_of_getElem? hr);have hi:i<xs.length:=(List.getElem?_eq_some_iff.1 hr).1;have hj:j<sz:=by rw [<- T2];exact (List.getElem?_eq_some_iff.1 hu).1
  have Pb:xs.flatten[i*sz+j]? = some u:=pg xs i hx hr hu;have aL:i*sz+j<xs.length*sz:=by
   have:(i+1)*sz<=xs.length*sz:=Nat.mul_le_mul_right _ hi;rw [Nat.succ_mul] at this;omega
  rw [<- dI,List.getElem?_take,if_pos aL] at Pb;simpa using Pb
theorem Mem.qx {c:Cx} {hs hs':List a8} {w:World} (hm:Mem c hs w) {E:TypeId} {sz:Nat} {v:Value} {n:Nat} {ys:List Value} {xs:List (List Value)} (ht:Take hs (row E sz v n ys) hs') (he:ys=xs.flatten) (hx:∀ r∈xs,r.length=sz) (hn:xs.length=n):Rd w v sz xs:=by
 subst he;obtain ⟨_,fp,_,⟨f1,f2,_,h1,_⟩,_⟩:=hm.take ht;exact Qj hx hn h1
theorem lr {α:Type} (l:List α):(l.map fun v=>[v]).flatten=l:=by
 induction l with
 | nil=>rfl
 | cons x l ih=>simp [ih]
theorem Mem.H4 {c:Cx} {hs hs':List a8} {w:World} (hm:Mem c hs w) {E:TypeId} {v:Value} {n:Nat} {ys:List Value} (ht:Take hs (row E 1 v n ys) hs') (hn:ys.length=n):Rd w v 1 (ys.map fun u=>[u]):=
 hm.qx ht (lr ys).symm (fun r hr=>by obtain ⟨u,_,rfl⟩:=List.mem_map.1 hr;rfl) (by simpa using hn)
theorem c7 {c:Cx} {D:List Nat} {sl:aI} {hs hs':List a8} {X:Act->World->Prop} {E:TypeId} {sz:Nat} {v:Value} {n:Nat} {xs:List Value} (ht:Take hs (row E sz v n xs) hs') (hn:0<n)
  (k:∀ g cap cur,v=.slice (some ⟨g,0,none⟩) n cap->n<=cap->cap<=maxLen->(xs++cur).length=cap*sz->xs.length=n*sz->Tr c D sl (bC g (.cells (xs++cur).toArray E (0,0))::hs') X):Tr c D sl hs X:=fun a w a7=>by
 have hm:=a7.mem.take (ht.append _);obtain ⟨kk,fp,jf,⟨f1,f2,rfl,⟨e,hl,h1⟩,h2⟩,hb⟩:=hm;rcases h1 with ⟨_,h0⟩ | ⟨g,cap,cur,rfl,hg,c8,xy,hsz,dI⟩
 ·omega
 ·have nF:cur=(xs++cur.toList.drop (n*sz)).toArray:=by
   rw [<- dI,List.take_append_drop]
  have hlen:(xs++cur.toList.drop (n*sz)).length=cap*sz:=by rw [<- dI,List.take_append_drop];simpa using hsz
  refine k g cap (cur.toList.drop (n*sz)) I c8 xy hlen hl a w (a7.heap ⟨kk,f1++f2,jf,⟨f1,f2,I,⟨?_,?_⟩,h2⟩,hb⟩)
  ·rw [e];rfl
  ·rw [<- nF];exact hg
theorem Mem.Mz {c:Cx} {hs:List a8} {w:World} {E:TypeId} {sz g n cap:Nat} {xs cur:List Value} (hm:Mem c (SL.bC g (.cells (xs++cur).toArray E (0,0))::hs) w) (c8:n<=cap) (xy:cap<=maxLen) (hsz:(xs++cur).length=cap*sz) (hl:xs.length=n*sz):Mem c (row E sz (.slice (some ⟨g,0,none⟩) n cap) n xs::hs) w:=by
 obtain ⟨kk,fp,jf,⟨f1,f2,rfl,⟨e,hg⟩,h2⟩,hb⟩:=hm;refine ⟨kk,f1++f2,jf,⟨f1,f2,I,⟨by rw [e];rfl,hl,.inr ⟨g,cap,_,I,hg,c8,xy,by simpa using hsz,?_⟩⟩,h2⟩,hb⟩;simp [<- hl]
theorem dx {c:Cx} {D:List Nat} {sl:aI} {hs hs':List a8} {X:Act->World->Prop} {E:TypeId} {sz g n cap:Nat} {xs cur:List Value} (ht:Take hs (bC g (.cells (xs++cur).toArray E (0,0))) hs') (c8:n<=cap) (xy:cap<=maxLen) (hsz:(xs++cur).length=cap*sz) (hl:xs.length=n*sz)
  (k:Tr c D sl (row E sz (.slice (some ⟨g,0,none⟩) n cap) n xs::hs') X):Tr c D sl hs X:=fun a w a7=>
 k a w (a7.heap (Mem.Mz (a7.mem.take (ht.append _)) c8 xy hsz hl))
section
variable {P:Program} {r:Option Nat} {c:Cx} {D:List Nat} {sl:aI} {hs hs':List a8} {ops:Array Oper} {Q:Exit->Act->World->Prop} {d:Nat} {ty:TypeId} {pos:String} {af:Array Edge} {rest:List Oper}
theorem nM {w w':World} {t ty e:TypeId} {i:TypeInfo} {z:Value} (ht:P.underlying t=some (.slice e)) (hi:P.info? e=some i) (hz:i.zero=some z)
  {v v':Value} {n:Nat} {xs:List Value} (pb:w.ownsRow 0 e i.size v n xs) {a:Addr} {m cp:Nat} {news:List Value} (hl:news.length=m*i.size) (rU:∀ j u,news[j]? = some u->w.cell? (a.add j)=some u) (h1:∀ u∈news,u.oneCell'=true)
  (h63:n+m<=maxLen) (gi:(n+m)*i.bytes<=140737488355328) (gA:(Builtin.append_ #[t,t] ty #[v,.slice (some a) m cp]).run P w=.ok v' w'):(v'.ownBlock=v.ownBlock\/v'.ownBlock=some w.heap.size)/\w.drawn<=w'.drawn:=by
 have W5:n+m<=9223372036854775807:=by simp only [maxLen] at h63;omega
 rcases pb.2 with ⟨rfl,rfl⟩ | ⟨g,cap,cur,rfl,RD,hg,Zk,ZA,Pe,dI⟩
 ·by_cases hm:m=0
  ·subst hm;have hn:news=[]:=List.eq_nil_of_length_eq_zero (by simpa using hl);subst hn;have:(Builtin.append_ #[t,t] ty #[.slice none 0 0,.slice (some a) 0 cp]).run P w=.ok (.slice none 0 0) w:=by
    simp [Builtin.append_,aU ht,sizeOf,typeInfo,hi,Builtin.lenOf,Builtin.firstCells,loadCells,loadCellsFrom]
   rw [gA] at this;cases this;exact ⟨.inl I,Nat.le_refl _⟩
  ·have hr:=run_append_nil (P:=P) w t ty e i z ht hi hz a m cp news hl rU (by omega) (by omega) (by have hb:=gi;simp only [Nat.zero_add] at hb;omega);rw [gA] at hr;cases hr;exact ⟨.inr I,Nat.le_succ _⟩
 ·by_cases yN:n+m<=cap
  ·have hfit:n*i.size+news.length<=cur.size:=by rw [hl,Pe,<- Nat.add_mul];exact Nat.mul_le_mul_right _ yN
   have hr:=run_append_room (P:=P) w t ty e i ht hi g n cap cur hg a m cp news hl rU h1 yN hfit;rw [gA] at hr;cases hr;exact ⟨.inl I,Nat.le_refl _⟩
  ·have holds:∀ j u,xs[j]? = some u->w.cell? ((⟨g,0,none⟩:Addr).add j)=some u:=pb.cells (g:=g) I;have hr:=run_append_grow (P:=P) w t ty e i z ht hi hz ⟨g,0,none⟩ n cap xs pb.1 holds a m cp news hl rU (by omega) (by omega) (growslice_fits (by omega) gi);rw [gA] at hr;cases hr;exact ⟨.inr I,Nat.le_succ _⟩
theorem ye {t e:TypeId} {agg:Bool} {size bytes:Nat} {z:Value} {x y:Operand} {v:Value} {n b o m cp:Nat} {xs news:List Value} [hu:iU P t (.slice e)] [hT:Ty P e agg size] [hZ:lQ P e z] [hB:wV P e bytes]
  (hx:Is sl x v) (hy:Is sl y (.slice (some ⟨b,o,none⟩) m cp)) (ht:Take hs (row e size v n xs) hs') (hn:eU c hs b o news) (hl:news.length=m*size) (h1:∀ u∈news,u.oneCell'=true) (hz:z.cells.size=size) (hsz:Nat.blt 0 size=true) (hb0:Nat.blt 0 bytes=true)
  (hb:(n+m)*bytes<=140737488355328) (hd:Nat.blt d c.nt=true)
  (k:∀ v',Tr c D ((d,v')::sl) (row e size v' (n+m) (xs++news)::hs') (WL P r ops Q rest)) :
  Tr c D sl hs (WL P r ops Q (⟨some d,.call ⟨.builtin .append,#[x,y],#[t,t]⟩,ty,pos,af,none⟩::rest)):=fun a w a7=>by
 obtain ⟨de,i,lM,hi,_,gG⟩:=Ty.parts (P:=P) (t:=e) (agg:=agg) (n:=size);have hzero:i.zero=some z:=by have:=hZ.eq;rw [hi] at this;simpa using this
 have gi:i.bytes=bytes:=by have:=hB.eq;rw [hi] at this;simpa using this
 have VQ:=a7.qP;have hm:=a7.mem.take (ht.append _);obtain ⟨kk,fp,jf,⟨f1,f2,rfl,hrow,h2⟩,Aj⟩:=hm;have pb:=vf hrow;have wa:0<bytes:=by simpa using hb0
 have bV:n+m<=maxLen:=by
  have:(n+m)*1<=(n+m)*bytes:=Nat.mul_le_mul_left _ wa;unfold maxLen;omega
 obtain ⟨v',w',gA,o9,rV,_⟩:=run_append_own (P:=P) w 0 t ty e i z size bytes hu.eq hi hzero gG gi hz (by simpa using hsz) v n xs pb ⟨b,o,none⟩ m cp news hl
  (fun j u hj=>by rw [ez];exact hn.get j u hj w VQ) h1 bV hb (Zi _)
 have sQ:=nM (P:=P) (t:=t) (ty:=ty) hu.eq hi hzero (by rw [gG];exact pb) (a:=⟨b,o,none⟩) (m:=m) (cp:=cp) (by rw [gG];exact hl) (fun j u hj=>by rw [ez];exact hn.get j u hj w VQ) h1 bV (by rw [gi];exact hb) gA
 refine mH I ⟨dO _ _ _ _ _,?_⟩;rw [Oper.semAt_eq _ _ _ (by simp)];have:(execOp a.eval ⟨some d,.call ⟨.builtin .append,#[x,y],#[t,t]⟩,ty,pos,af,none⟩).run P w=.ok (.value v') w':=by
  simp [execOp,resolve,invoke,builtin,hx a a7.cP,hy a a7.cP,gA]
 rw [this];refine k v' _ _ ((a7.put (by simpa [Nat.blt_eq] using hd) v').heap ?_);have hm:Mem c ([row e size v n xs]++(hs'++mC D)) w:=⟨kk,f1++f2,jf,⟨f1,f2,I,hrow,h2⟩,Aj⟩;have:=Mem.change (Bs:=[row e size v' (n+m) (xs++news)]) (w':=w') hm fun fp tK hf=>by
  obtain ⟨g1,g2,e1,hr,e2⟩:=hf;have CD:fp=v.ownBlock.toList:=by rw [e1,show g2=[] from e2,hr.1];simp
  refine ⟨⟨rV.os,rV.tape,rV.output,sQ.2,rV.size,fun q hq Uf=>rV.block q hq (fun he=>Uf ?_)⟩,v'.ownBlock.toList,?_,⟨_,[],by simp,ke o9,I⟩,fun q hq=>?_⟩
  ·rw [CD,<- he];simp
  ·cases v'.ownBlock <;> simp
  ·have tJ:v'.ownBlock=some q:=by simpa [Option.mem_toList] using hq
   rcases sQ.1 with h | h
   ·left;rw [CD,<- h,tJ];simp
   ·right
    rw [h] at tJ;cases tJ;exact Nat.le_refl _
 simpa using this
end
end Go.SL
namespace Go.SL
open Go
def Ct {ι:Type} (c:Cx) (D:List Nat) (Φ:ι->Prop) (sI:ι->aI) (hI:ι->List a8) (μ:ι->Nat) (i:ι):Act->World->Prop:=fun a w=>∃ j,Φ j/\μ j<μ i/\St c D (sI j) (hI j) a w
def zg {ι:Type} (c:Cx) (D:List Nat) (Φ:ι->Prop) (sI:ι->aI) (hI:ι->List a8):Act->World->Prop:=fun a w=>∃ i,Φ i/\St c D (sI i) (hI i) a w
section
variable {P:Program} {r:Option Nat} {c:Cx} {D:List Nat} {sl:aI} {hs hs':List a8} {Q:Exit->Act->World->Prop} {ι:Type} {Φ:ι->Prop} {sI:ι->aI} {hI:ι->List a8} {μ:ι->Nat}
theorem aY {x:Code} (Φ:ι->Prop) (sI:ι->aI) (hI:ι->List a8) (μ:ι->Nat) (h0:Tr c D sl hs (zg c D Φ sI hI))
  (round:∀ i,Φ i->Tr c D (sI i) (hI i) (WP P r x (Exit.then (Ct c D Φ sI hI μ i) Q))):Tr c D sl hs (WP P r (.loop x) Q):=
 L7 Φ sI hI μ h0 round
def lF (sl:aI):aI->Prop
 | []=>True
 | (t,v)::r=>cJ sl t=some v/\lF sl r
theorem lF.get:∀ {jy:aI},lF sl jy->∀ t v,cJ jy t=some v->cJ sl t=some v
 | [],_,t,v,h=>by cases h
 | (u, x) :: r, ⟨h1, h2⟩, t, v, h => by
  by_cases e:u=t
  ·subst e;rw [fR] at h;cases h;exact h1
  ·rw [fQ e] at h;exact lF.get h2 t v h
theorem lF.nil:lF sl []:=trivial
theorem lF.cons {t:Nat} {v:Value} {r:aI} (h:cJ sl t=some v) (k:lF sl r):lF sl ((t,v)::r):=⟨h,k⟩
theorem lF.KG {t:Nat} {v u:Value} {r:aI} (h:cJ sl t=some u) (e:u=v) (k:lF sl r):lF sl ((t,v)::r):=⟨e ▸ h,k⟩
theorem St.weaken {jy:aI} {hs1 rest:List a8} {a:Act} {w:World} (h:St c D sl hs a w) (hs':lF sl jy) (ht:bn hs hs1 rest):St c D jy hs1 a w:=by
 refine ⟨?_,h.cP.sub hs'.get,h.size,h.defers⟩;have h1:=h.mem.jd (ht.append (mC D))
 -- hs1++(rest++mC):forget yf rest
 obtain ⟨k,fp,hn,gQ,hb⟩:=h1;obtain ⟨f1,f2,rfl,s1,s2⟩:=ch.append_iff.1 gQ;obtain ⟨g1,g2,rfl,s3,s4⟩:=ch.append_iff.1 s2;refine ⟨k,f1++g2,?_,ch.append_iff.2 ⟨f1,g2,I,s1,s4⟩,fun b dD=>hb b ?_⟩
 ·obtain ⟨n1,n2,n3⟩:=List.nodup_append.1 hn;obtain ⟨_,n5,_⟩:=List.nodup_append.1 n2;exact List.nodup_append.2 ⟨n1,n5,fun x hx y hy=>n3 x hx y (List.mem_append_right _ hy)⟩
 ·rcases List.mem_append.1 dD with h | h
  ·exact List.mem_append_left _ h
  ·exact List.mem_append_right _ (List.mem_append_right _ h)
theorem aJ {i:ι} (j:ι) {rest:List a8} (hΦ:Φ j) (hμ:μ j<μ i) (hs1:lF sl (sI j)) (ht:bn hs (hI j) rest):Tr c D sl hs (Ct c D Φ sI hI μ i):=
 fun a w a7=>⟨j,hΦ,hμ,a7.weaken hs1 ht⟩
theorem aK (j:ι) {rest:List a8} (hΦ:Φ j) (hs1:lF sl (sI j)) (ht:bn hs (hI j) rest):Tr c D sl hs (zg c D Φ sI hI):=
 fun a w a7=>⟨j,hΦ,a7.weaken hs1 ht⟩
def PQ (c:Cx) (D:List Nat) {ι:Type} (Φ:ι->Prop) (sM:ι->aI) (hM:ι->List a8):Act->World->Prop:=fun a w=>∃ x,Φ x/\St c D (sM x) (hM x) a w
theorem Hv {x y:Code} (Φ:ι->Prop) (sM:ι->aI) (hM:ι->List a8) (h1:Tr c D sl hs (WP P r x (Exit.then (PQ c D Φ sM hM) Q))) (h2:∀ x,Φ x->Tr c D (sM x) (hM x) (WP P r y Q)):Tr c D sl hs (WP P r (.seq x y) Q):=
 qG fun a w a7=>wpIn_mono (h1 a w a7) fun e a' w' h=>by
  cases e with
  | normal=>obtain ⟨x,hx,hs⟩:=h;exact h2 x hx a' w' hs
  | _=>exact h
theorem ur (x:ι) {sM:ι->aI} {hM:ι->List a8} {rest:List a8} (hΦ:Φ x) (h1:lF sl (sM x)) (ht:bn hs (hM x) rest):Tr c D sl hs (PQ c D Φ sM hM):=fun a w a7=>⟨x,hΦ,a7.weaken h1 ht⟩
variable {ops:Array Oper} {d:Nat} {dst:Option Tmp} {ty:TypeId} {pos:String} {af:Array Edge} {g:Option (Nat×Bool)} {rest:List Oper}
theorem FX {t:TypeId} {x:Operand} {s:ByteArray} [hu:iU P t .string] (hx:Is sl x (.string s)):qp P c sl hs ⟨dst,.range t x,ty,pos,af,g⟩ (fun b=>.pointer (some ⟨b,0,none⟩)) (.stringIter s 0):=
 ⟨by simp,fun a w ha _=>by simp [execOp,hx a ha,Instr.range,aU hu.eq]⟩
theorem Ht {x:Operand} {b p:Nat} {s:ByteArray} (hx:Is sl x (.pointer (some ⟨b,0,none⟩))) (ht:Take hs (bC b (.stringIter s p)) hs') (hd:Nat.blt d c.nt=true)
  (kt:p<s.size->Tr c D ((d,.tuple [Value.bool true,.int .i64 p,.int .i32 (Utf8.decode s p).1].toArray)::sl) (bC b (.stringIter s (p+(Utf8.decode s p).2))::hs') (WL P r ops Q rest))
  (kf:¬ p<s.size->Tr c D ((d,.tuple [Value.bool false].toArray)::sl) (bC b (.stringIter s p)::hs') (WL P r ops Q rest)) :
  Tr c D sl hs (WL P r ops Q (⟨some d,.next x true,ty,pos,af,none⟩::rest)):=fun a w a7=>by
 have hm:=a7.mem.take (ht.append _);have hb:w.heap[b]? = some (.stringIter s p):=hm.bC .here;have aL:=ki (w:=w) hb;refine mH I ⟨dO _ _ _ _ _,?_⟩;rw [Oper.semAt_eq _ _ _ (by simp)];by_cases h:p<s.size
 ·have:(execOp a.eval ⟨some d,.next x true,ty,pos,af,none⟩).run P w=.ok (.value (.tuple [Value.bool true,.int .i64 p,.int .i32 (Utf8.decode s p).1].toArray)) (setBlock w b (.stringIter s (p+(Utf8.decode s p).2))):=by
   simp [execOp,hx a a7.cP,Instr.next,getObj,setObj,Sem.run,hb,h,goInt,setBlock]
  rw [this];exact kt h _ _ ((a7.put (by simpa [Nat.blt_eq] using hd) _).heap (Mem.store hm (aD.setBlock w b _) (mj aL)))
 ·have:(execOp a.eval ⟨some d,.next x true,ty,pos,af,none⟩).run P w=.ok (.value (.tuple [Value.bool false].toArray)) w:=by
   simp [execOp,hx a a7.cP,Instr.next,getObj,Sem.run,hb,h]
  rw [this];exact kf h _ _ ((a7.put (by simpa [Nat.blt_eq] using hd) _).heap hm)
structure KeyLaw (kind:TypeDesc) {κ:Type} [DecidableEq κ] (kv:κ->Value):Prop where
 same:∀ a b,Instr.sameNow kind (kv a) (kv b)=some (decide (a=b))
 bits:∀ a,Instr.sameBits 10000 (kv a) (kv a)=true
 flat:∀ (P:Program) (t:TypeId) (e:Bool) (w:World) (a:κ),P.underlying t=some kind->(Instr.checkKey e 10000 t (kv a)).run P w=.ok () w
structure IC {κ:Type} (kv:κ->Value) (l:List (κ×Value)) (es:Array MapEntry) (ck:Nat):Prop where
 eq:es.toList.map (fun e=>(e.key,e.val))=l.map (fun p=>(kv p.1,p.2))
 nd:(es.toList.map (·.born)).Nodup
 lt:∀ x∈es.toList,x.born<ck
def mp {κ:Type} (kv:κ->Value) (b:Nat) (l:List (κ×Value)):a8 where
 sat h fp:=fp=[b]/\∃ es clock,h b=some (.map es clock)/\IC kv l es clock
 loc:=fun ⟨e,es,ck,h1,h2⟩ hb=>⟨e,es,ck,by rw [hb _ (by rw [e];simp)];exact h1,h2⟩
 own:=fun ⟨e,es,ck,h1,h2⟩ b' dD=>by rw [e] at dD;rw [List.mem_singleton.1 dD];exact ⟨_,h1⟩
def eK {κ:Type} [DecidableEq κ] (k:κ):List (κ×Value)->Option Value
 | []=>none
 | (x,v)::r=>if k=x then some v else eK k r
def nf {κ:Type} [DecidableEq κ] (k:κ) (v:Value):List (κ×Value)->List (κ×Value)
 | []=>[(k,v)]
 | (x,u)::r=>if k=x then (x,v)::r else (x,u)::nf k v r
section
variable {κ:Type} [DecidableEq κ] {kv:κ->Value} {kind:TypeDesc}
theorem findNow_spec (hk:KeyLaw kind kv) (k:κ):∀ (es:List MapEntry) (l:List (κ×Value)) (i:Nat),es.map (fun e=>(e.key,e.val))=l.map (fun p=>(kv p.1,p.2)) ->
  (eK k l=none/\Instr.findNow kind (kv k) es i=some none) \/
  (∃ j v,eK k l=some v/\Instr.findNow kind (kv k) es i=some (some (i+j,v))/\j<es.length/\(∃ x,l[j]? = some (x,v)/\x=k)/\∀ u,nf k u l=l.set j (k,u))
 | [],[],i,_=>.inl ⟨rfl,rfl⟩
 | [],_::_,i,h=>by simp at h
 | _::_,[],i,h=>by simp at h
 | e :: es, (x, v) :: l, i, h => by
  simp only [List.map_cons,List.cons.injEq,Prod.mk.injEq] at h;obtain ⟨⟨h1,h2⟩,h3⟩:=h;have hs:=hk.same k x;unfold Instr.findNow;rw [h1,hs];by_cases e':k=x
  ·subst e';refine .inr ⟨0,v,by simp [eK],by simp [h2],by simp,⟨k,by simp,I⟩,fun u=>by simp [nf]⟩
  ·simp only [e',decide_false];rcases findNow_spec hk k es l (i+1) h3 with ⟨a1,a2⟩ | ⟨j,u,a1,a2,a3,⟨y,a4,a5⟩,a6⟩
   ·exact .inl ⟨by simp [eK,e',a1],a2⟩
   ·exact .inr ⟨j+1,u,by simp [eK,e',a1],by rw [a2];congr 3;omega,by simp;omega,⟨y,by simpa using a4,a5⟩,fun u'=>by simp [nf,e',a6 u']⟩
theorem zd {k:κ} {v:Value}:∀ {l:List (κ×Value)},eK k l=none->nf k v l=l++[(k,v)]
 | [],_=>rfl
 | (x, u) :: r, h => by
  simp only [eK] at h;split at h
  ·cases h
  ·rename_i e;simp [nf,e,zd h]
theorem CM {t:TypeId} (kv:κ->Value) (hd:Nat.blt d c.nt=true) (k:∀ b,c.w0.heap.size<=b->Tr c D ((d,.map (some b))::sl) (mp kv b []::hs) (WL P r ops Q rest)) :
  Tr c D sl hs (WL P r ops Q (⟨some d,.makeMap t none,ty,pos,af,none⟩::rest)):=
 bb C1 hd fun b hb a w a7=>k b hb a w (a7.heap (by
  obtain ⟨kk,fp,hn,⟨f1,f2,rfl,⟨e,h1⟩,h2⟩,Aj⟩:=a7.mem;exact ⟨kk,f1++f2,hn,⟨f1,f2,I,⟨e,#[],0,h1,I,List.nodup_nil,fun _ h=>by cases h⟩,h2⟩,Aj⟩))
def Looks (c:Cx) (hs:List a8) (b:Nat) (kv:κ->Value) (l:List (κ×Value)):Prop:=∀ w,Mem c hs w->∃ es clock,w.heap[b]? = some (.map es clock)/\IC kv l es clock
theorem Looks.mp {b:Nat} {l:List (κ×Value)} (ht:Take hs (SL.mp kv b l) hs'):Looks c hs b kv l:=fun w hm=>by
 obtain ⟨_,fp,_,⟨f1,f2,_,⟨_,es,ck,h1,h2⟩,_⟩,_⟩:=hm.take ht;exact ⟨es,ck,h1,h2⟩
theorem FY {t kt et:TypeId} {x y:Operand} {b:Nat} {k:κ} {l:List (κ×Value)} {z:Value} [hu:iU P t (.map kt et)] [Gq:iU P kt kind] [hz:lQ P et z] (hk:KeyLaw kind kv) (hx:Is sl x (.map (some b))) (hy:Is sl y (kv k)) (hl:Looks c hs b kv l) :
  cQ P c sl hs ⟨dst,.lookup t x y false,ty,pos,af,g⟩ ((eK k l).getD z):=
 ⟨by
   simp,fun a w ha hm=>by
  obtain ⟨es,ck,h1,h2⟩:=hl w hm;have hg:(getObj b).run P w=.ok (.map es ck) w:=by simp [getObj,Sem.run,h1]
  have AP:=hk.flat P kt es.isEmpty w k Gq.eq;rcases findNow_spec hk k es.toList l 0 h2.eq with ⟨a1,a2⟩ | ⟨j,v,a1,a2,_⟩
  ·have:(Instr.findKey kt (kv k) es.toList).run P w=.ok none w:=by
    simp [Instr.findKey,aU Gq.eq,a2]
   simp [execOp,hx a ha,hy a ha,Instr.lookup,aU hu.eq,hg,AP,this,a1,iM (t:=et) (v:=z)]
  ·have:(Instr.findKey kt (kv k) es.toList).run P w=.ok (some (0+j,v)) w:=by
    simp [Instr.findKey,aU Gq.eq,a2]
   simp [execOp,hx a ha,hy a ha,Instr.lookup,aU hu.eq,hg,AP,this,a1]⟩
theorem nq {t kt et:TypeId} {x y v':Operand} {b:Nat} {k:κ} {v:Value} {l:List (κ×Value)} [hu:iU P t (.map kt et)] [Gq:iU P kt kind] (hk:KeyLaw kind kv) (hx:Is sl x (.map (some b))) (hy:Is sl y (kv k)) (hv:Is sl v' v) (ht:Take hs (mp kv b l) hs')
  (kk:Tr c D sl (mp kv b (nf k v l)::hs') (WL P r ops Q rest)):Tr c D sl hs (WL P r ops Q (⟨none,.mapUpdate t x y v',ty,pos,af,none⟩::rest)):=fun a w a7=>by
 have hm:=a7.mem.take (ht.append _);obtain ⟨kk0,fp,hn,⟨f1,f2,rfl,⟨e,es,ck,h1,h2⟩,h3⟩,Aj⟩:=hm;have xD:w.heap[b]? = some (.map es ck):=h1;have hm:Mem c ([mp kv b l]++(hs'++mC D)) w:=⟨kk0,f1++f2,hn,⟨f1,f2,I,⟨e,es,ck,h1,h2⟩,h3⟩,Aj⟩;have hg:(getObj b).run P w=.ok (.map es ck) w:=by simp [getObj,Sem.run,xD]
 have uP:∀ o,(setObj b o).run P w=.ok () (setBlock w b o):=fun o=>by simp [setObj,Sem.run,xD,setBlock]
 have AP:=hk.flat P kt false w k Gq.eq;have aL:=ki (w:=w) xD;have gA:∃ NX U9,(execOp a.eval ⟨none,.mapUpdate t x y v',ty,pos,af,none⟩).run P w=.ok .skip (setBlock w b (.map NX U9))/\IC kv (nf k v l) NX U9:=by
  rcases findNow_spec hk k es.toList l 0 h2.eq with ⟨a1,a2⟩ | ⟨j,v0,a1,a2,hj,⟨x0,QS,rfl⟩,mw⟩
  ·have hf:(Instr.findKey kt (kv k) es.toList).run P w=.ok none w:=by
    simp [Instr.findKey,aU Gq.eq,a2]
   refine ⟨es.push { key:=kv k,val:=v,born:=ck },ck+1,?_,?_⟩
   ·simp [execOp,hx a a7.cP,hy a a7.cP,hv a a7.cP,Instr.mapUpdate,aU hu.eq,hg,AP,hf,uP]
   ·refine ⟨?_,?_,?_⟩
    ·rw [zd a1];simp [h2.eq]
    ·simp only [Array.toList_push,List.map_append,List.map_cons,Zf];refine List.nodup_append.2 ⟨h2.nd,by simp,fun x hx y hy e=>?_⟩;obtain ⟨z,hz,rfl⟩:=List.mem_map.1 hx;have:=h2.lt z hz;simp at hy;omega
    ·intro x hx;rw [Array.toList_push,List.mem_append] at hx;rcases hx with hx | hx
     ·have:=h2.lt x hx;omega
     ·simp at hx;subst hx;show ck<ck+1;omega
  ·have hf:(Instr.findKey kt (kv x0) es.toList).run P w=.ok (some (0+j,v0)) w:=by
    simp [Instr.findKey,aU Gq.eq,a2]
   have sR:(es[j]?.map (·.key)).getD (kv x0)=kv x0:=by
    have h5:(es.toList.map (fun e=>(e.key,e.val)))[j]? = some (kv x0,v0):=by rw [h2.eq];simp [QS]
    rw [List.getElem?_map] at h5;obtain ⟨e0,AQ,J9⟩:=Option.map_eq_some_iff.1 h5;simp only [Prod.mk.injEq] at J9;have:es[j]? = some e0:=by simpa using AQ
    simp [this,J9.1]
   have XB:(Instr.keyThatStays (kv x0) (kv x0)).run P w=.ok (kv x0) w:=by simp [Instr.keyThatStays,hk.bits]
   refine ⟨es.modify j fun e=>{ e with key:=kv x0,val:=v },ck,?_,?_⟩
   ·simp only [execOp,hx a a7.cP,hy a a7.cP,hv a a7.cP,Instr.mapUpdate,Sem.run_bind,aU hu.eq,Result.andThen_ok,hg,AP,hf,Nat.zero_add,sR,XB,uP,Sem.run_pure]
   ·have Pf:((es.modify j fun e=>{ e with key:=kv x0,val:=v }).toList.map (·.born))=es.toList.map (·.born):=by
     rw [Array.toList_modify];apply List.ext_getElem?;intro q;rw [List.getElem?_map,List.getElem?_map,List.getElem?_modify];by_cases SD:j=q
     ·subst SD;cases es.toList[j]? <;> simp
     ·simp [SD]
    refine ⟨?_,by rw [Pf];exact h2.nd,fun x hx=>?_⟩
    rotate_left
    ·have:x.born∈es.toList.map (·.born):=by rw [<- Pf];exact List.mem_map.2 ⟨x,hx,I⟩
     obtain ⟨y,hy,e⟩:=List.mem_map.1 this;rw [<- e];exact h2.lt y hy
    rw [mw];rw [Array.toList_modify];apply List.ext_getElem?;intro q;rw [List.getElem?_map,List.getElem?_map,List.getElem?_modify,List.getElem?_set];have hq:(es.toList.map (fun e=>(e.key,e.val)))[q]? = (l.map (fun p=>(kv p.1,p.2)))[q]?:=by rw [h2.eq]
    rw [List.getElem?_map,List.getElem?_map] at hq;have hlen:es.toList.length=l.length:=by have:=congrArg List.length h2.eq;simpa using this
    by_cases SD:j=q
    ·subst SD;have Nz:j<l.length:=by rw [<- hlen];exact hj
     have he:es.toList[j]? = some es.toList[j]:=Zc hj;rw [he,if_pos I,if_pos Nz];simp
    ·rw [if_neg SD,<- hq];simp [SD]
 obtain ⟨NX,U9,hr,dU⟩:=gA;refine mH I ⟨dO _ _ _ _ _,?_⟩;rw [Oper.semAt_eq _ _ _ (by simp),hr];refine kk _ _ (a7.heap ?_);have:=Mem.change (Bs:=[mp kv b (nf k v l)]) (w':=setBlock w b (.map NX U9)) hm fun fp tK hf=>by
  obtain ⟨g1,g2,e1,LA,e2⟩:=hf;have CD:fp=[b]:=by rw [e1,show g2=[] from e2,LA.1];rfl
  subst CD;exact ⟨aD.setBlock w b _,[b],by simp,⟨[b],[],I,⟨I,NX,U9,mj aL,dU⟩,I⟩,fun q hq=>.inl hq⟩
 simpa using this
end
theorem IN:KeyLaw .string (fun s:ByteArray=>Value.string s) where
 same a b:=by
  simp only [Instr.sameNow];congr 1;rw [beq_toListBytes,uy]
 bits a:=by unfold Instr.sameBits;simp [beq_toListBytes]
 flat P t e w a h:=by unfold Instr.checkKey;simp [aU h]
end
end Go.SL
namespace Go.SL
open Go
def NW {ι:Type} (Φ:ι->Prop) (A:ι->List a8):a8 where
 sat h fp:=∃ x,Φ x/\ch h (A x) fp
 loc:=fun ⟨x,hx,hs⟩ hb=>⟨x,hx,hs.loc hb⟩
 own:=fun ⟨_,_,hs⟩ b hb=>hs.own b hb
section
variable {P:Program} {r:Option Nat} {c:Cx} {D:List Nat} {sl:aI} {hs hs':List a8} {Q:Exit->Act->World->Prop} {ι:Type}
theorem FW {l:Nat} {f:FuncId} {tmps:Array Value} {D7 body:Code} {w:World} {R:Ending->World->Prop} (h:RoundIn (FR none) 0 P l f tmps D7 body w R):RoundIn (FR r) 0 P l f tmps D7 body w R:=h
variable {ops:Array Oper} {d:Nat} {ty:TypeId} {pos:String} {af:Array Edge} {rest:List Oper}
def gy (rc:Loop) (s:LoopState) (pd:Option Code):Obj:=.loop { rc with state:=s,pending:=pd }
def pB (md:List Nat) (w:World) (post:Bool->a8):Ending->World->Prop:=fun e W'=>∃ b,e=.returned (.bool b)/\aD md w W'/\∃ lN:List Nat,lN.Nodup/\(post b).sat (hp W') lN/\∀ x∈lN,x∈md\/w.heap.size<=x
def Ee (P:Program) (l:Nat) (body:Code) (R:Ending->World->Prop):Act->World->Prop:=fun a₁ w₁=>∃ w₂,(Instr.beginRound l).run P w₁=.ok () w₂/\body.wpIn (FR (some l)) 0 P (roundPost P l R) a₁ w₂
theorem mL {l:Nat} {rc:Loop} {body:Code} {R:Ending->World->Prop} {pd:Option Code} (ht:Take hs (bC l (gy rc .ready pd)) hs') (k:Tr c D sl (bC l (gy rc .busy pd)::hs') (WP P (some l) body (roundPost P l R))):Tr c D sl hs (Ee P l body R):=fun a w a7=>by
 have hm:=a7.mem.take (ht.append _);have hb:w.heap[l]? = some (gy rc .ready pd):=hm.bC .here;refine ⟨w.putObj l (gy rc .busy pd),run_beginRound (r:={ rc with state:=.ready,pending:=pd }) hb I,k a _ (a7.heap (Mem.store hm ⟨I,I,I,Nat.le_refl _,by simp,fun k _ hn=>World.putObj_heap_other (by simpa using hn)⟩ (World.putObj_heap_same (ki (w:=w) hb))))⟩
theorem yq {l:Nat} {rc:Loop} {post:Bool->a8} {s:LoopState} {pd jump:Option Code} (ht:Take hs (bC l (gy rc s pd)) hs') {hs2:List a8} (ht2:∀ w,Mem c (bC l (gy rc (if jump.isNone then .ready else .done) jump)::hs') w->∃ fp:List Nat,fp.Nodup/\(post jump.isNone).sat (hp w) fp/\∀ b∈fp,c.w0.heap.size<=b\/b∈c.md)
  {a:Act} {w:World} (a7:St c D sl hs a w):∃ v w',(Instr.endRound l jump).run P w=.ok v w'/\pB c.md c.w0 post (.returned v) w':=by
 have _:=hs2;have hm:=a7.mem.take (ht.append _);have hb:w.heap[l]? = some (gy rc s pd):=hm.bC .here;have hk:aD [l] w (w.putObj l (gy rc (if jump.isNone then .ready else .done) jump)):=⟨I,I,I,Nat.le_refl _,by simp,fun k _ hn=>World.putObj_heap_other (by simpa using hn)⟩
 have k9:=Mem.store hm hk (World.putObj_heap_same (ki (w:=w) hb));refine ⟨.bool jump.isNone,_,run_endRound (r:={ rc with state:=s,pending:=pd }) jump hb,jump.isNone,I,k9.keeps,?_⟩;obtain ⟨fp,h1,h2,h3⟩:=ht2 _ (by have:=k9;rw [<- Zb] at this;exact this.lA);exact ⟨fp,h1,h2,fun b hb=>(h3 b hb).symm⟩
theorem HS {Φ:ι->Prop} {A:ι->List a8} (x:ι) (hx:Φ x) {As rest:List a8} (ht:bn As (A x) rest) {w:World} (hm:Mem c As w):∃ fp:List Nat,fp.Nodup/\(NW Φ A).sat (hp w) fp/\∀ b∈fp,c.w0.heap.size<=b\/b∈c.md:=by
 obtain ⟨_,fp,hn,gQ,hb⟩:=hm.jd ht;obtain ⟨f1,f2,rfl,h1,_⟩:=ch.append_iff.1 gQ;exact ⟨f1,(List.nodup_append.1 hn).1,⟨x,hx,h1⟩,fun b dD=>hb b (List.mem_append_left _ dD)⟩
theorem FL {l:Nat} {rc:Loop} {post:Bool->a8} {s:LoopState} {pd:Option Code} {Φ:ι->Prop} {A:ι->List a8} (x:ι) {rest:List a8} (AN:post true=NW Φ A) (ht:Take hs (bC l (gy rc s pd)) hs') (hx:Φ x) (h2:bn (bC l (gy rc .ready none)::hs') (A x) rest) :
  Tr c D sl hs (roundPost P l (pB c.md c.w0 post) .normal):=fun _ _ a7=>
 yq (jump:=none) (hs2:=[]) ht (fun w hm=>by show ∃ fp:List Nat,fp.Nodup/\(post true).sat (hp w) fp/\_;rw [AN];exact HS x hx h2 hm) a7
theorem FK {l:Nat} {rc:Loop} {post:Bool->a8} {s:LoopState} {pd:Option Code} {Φ:ι->Prop} {A:ι->List a8} (x:ι) {rest:List a8} (AN:post false=NW Φ A) (ht:Take hs (bC l (gy rc s pd)) hs') (hx:Φ x) (h2:bn (bC l (gy rc .done (some .ret))::hs') (A x) rest) :
  Tr c D sl hs (roundPost P l (pB c.md c.w0 post) .ret):=fun _ _ a7=>
 yq (jump:=some .ret) (hs2:=[]) ht (fun w hm=>by show ∃ fp:List Nat,fp.Nodup/\(post false).sat (hp w) fp/\_;rw [AN];exact HS x hx h2 hm) a7
def mq:List (Nat×Value)->aI->aI
 | [],sl=>sl
 | (t,v)::r,sl=>mq r ((t,v)::sl)
theorem yx {nt:Nat}:∀ (ps:List (Nat×Value)) (sl:aI) (tmps:Array Value),bS sl ⟨tmps,[]⟩->tmps.size=nt->(∀ p∈ps,p.1<nt) ->
  bS (mq ps sl) ⟨ps.foldl (fun t p=>t.setIfInBounds p.1 p.2) tmps,[]⟩/\(ps.foldl (fun (t:Array Value) p=>t.setIfInBounds p.1 p.2) tmps).size=nt
 | [],sl,tmps,h,hn,_=>⟨h,hn⟩
 | (t, v) :: ps, sl, tmps, h, hn, hp => by
  have h1:=h.put (d:=t) (by show t<tmps.size;rw [hn];exact hp (t,v) (by simp)) v;exact yx ps ((t,v)::sl) (tmps.setIfInBounds t v) h1 (by simpa using hn) (fun q hq=>hp q (by simp [hq]))
theorem zt {g:Operand} {ps:Array Tmp} {D7 body:Code} {f:FuncId} {first cap:List Value} (hg:Is sl g (.func (.func f) first.toArray cap.toArray)) [bU P f]
  {As:Nat->Loop->List a8} {rest:List a8} {Φ:Nat->Loop->ι->Prop} {own:Nat->Loop->ι->List a8} {st:ι->LoopState} {pd:ι->Option Code}
  (ht:∀ l rc,bn (bC l (gy rc .ready none)::hs) (As l rc) rest) (a7:∀ x,st x≠.busy)
  (hc:∀ l rc,rc.params=ps->rc.assign=D7->rc.body=body->bS sl ⟨rc.tmps,[]⟩->rc.tmps.size=c.nt->∀ w fp,Mem c (bC l (gy rc .ready none)::hs) w->fp.Nodup->ch (hp w) (As l rc) fp->(∀ b∈fp,c.w0.heap.size<=b\/b∈c.md) ->
   bh P f (first++[Value.func (Fn.yield l) #[] #[]]++cap) w fp (Φ l rc) (fun _=>Value.tuple #[]) (fun x=>bC l (gy rc (st x) (pd x))::own l rc x))
  (kn:∀ l rc x b,Φ l rc x->pd x=none->Tr c (b::D) sl (own l rc x++rest) (Q .normal))
  (kj:∀ l rc x b j,Φ l rc x->pd x=some j->Tr c (b::D) sl (own l rc x++rest) (WP P none j Q)) :
  Tr c D sl hs (WP P none (.rangeFunc g ps D7 body) Q):=fun a w hs0=>by
 refine wpIn_rangeFunc fun fn _=>?_
 let rc:Loop:={ state:=.ready,pending:=none,fn,tmps:=a.tmps,params:=ps,assign:=D7,body,defers:=w.heap.size }
 let l:=w.heap.size+1
 let w1:=(w.alloc (.deferred (some []))).alloc (.loop rc)
 have Xf:gy rc .ready none=.loop rc:=rfl
 -- yf state behind yf record
 have aS:Mem c (bC w.heap.size (.deferred (some []))::(hs++mC D)) (w.alloc (.deferred (some []))):=hs0.mem.alloc _;have k9:Mem c (bC l (gy rc .ready none)::bC w.heap.size (.deferred (some []))::(hs++mC D)) w1:=by
  have:=aS.alloc (.loop rc);simpa [l,w1,Xf] using this
 -- Ql: yf record and hs ahead,yf new mark Z7 yf marks
 have VP:Mem c ((bC l (gy rc .ready none)::hs)++mC (w.heap.size::D)) w1:=by
  obtain ⟨k,fp,hn,⟨f1,f2,rfl,h1,⟨f3,f4,rfl,h3,h4⟩⟩,hb⟩:=k9;obtain ⟨f5,f6,rfl,h5,h6⟩:=ch.append_iff.1 h4;have gZ:(f1++(f3++(f5++f6))).Perm ((f1++f5)++(f3++f6)):=by
   rw [Zh];refine List.Perm.append_left f1 ?_;rw [<- Zh,<- Zh];exact List.perm_append_comm.append_right f6
  refine ⟨k,(f1++f5)++(f3++f6),gZ.nodup_iff.1 hn,ch.append_iff.2 ⟨f1++f5,f3++f6,I,⟨f1,f5,I,h1,h5⟩,⟨f3,f6,I,h3,h6⟩⟩,fun b dD=>hb b (gZ.mem_iff.2 dD)⟩
 have htk:=ht l rc;obtain ⟨k4,fp,hn,gQ,hb⟩:=VP.jd (htk.append (mC (w.heap.size::D)));obtain ⟨f1,f2,rfl,h1,h2⟩:=ch.append_iff.1 gQ;have cn:=hc l rc I I I hs0.cP hs0.size w1 f1 VP.lA (List.nodup_append.1 hn).1 h1 (fun b dD=>hb b (List.mem_append_left _ dD))
 refine ⟨l,[{ target:=.collected w.heap.size,args:=#[] }],w1,{ target:=.fn (.func f) cap.toArray,args:=first.toArray++#[.func (.yield l) #[] #[]] },w1,f,(first++[Value.func (Fn.yield l) #[] #[]]++cap).toArray,w1,run_enterLoop_outer fn a.tmps ps D7 body,?_,fun _ _=>trivial,?_,by simp [FR,Fence.wide],?_⟩
 ·have:=hg a hs0.cP;simp only [resolve,rangeCall,Deferred.ofValue,this,Sem.run_bind,Sem.run_pure,Result.andThen_ok];simp [Act.eval,l]
 ·simp only [invoke];rw [tu];simp
 ·refine (gT (r:=none) cn).mono fun e w' ⟨x,he,hx,hk,lN,tK,hs',yS⟩=>?_;subst he;obtain ⟨g1,g2,rfl,Nr,pb⟩:=hs';obtain ⟨rfl,hl⟩:=Nr;have tL:w'.heap[l]? = some (gy rc (st x) (pd x)):=hl;refine ⟨pd x,w'.putObj l (gy rc .exhausted (pd x)),run_endLoop (r:={ rc with state:=st x,pending:=pd x }) tL (a7 x),?_⟩
  -- yf state behind it all
  obtain ⟨n1,n2,n12⟩:=List.nodup_append.1 hn;have aL:∀ b∈f2,b<w1.heap.size:=fun b dD=>let ⟨o,ho⟩:=h2.own b dD;ki ho
  have hm5:Mem c (bC l (gy rc (st x) (pd x))::(own l rc x++(rest++mC (w.heap.size::D)))) w':=by
   refine ⟨?_,(([l]++g2)++f2),?_,?_,?_⟩
   ·refine ⟨hk.os.trans k4.os,hk.tape.trans k4.tape,hk.output.trans k4.output,Nat.le_trans k4.dr hk.dr,Nat.le_trans k4.size hk.size,fun b dD hm=>?_⟩;rw [<- k4.block b dD hm];refine hk.block b (Nat.lt_of_lt_of_le dD k4.size) (fun hf=>?_);rcases hb b (List.mem_append_left _ hf) with h | h
    ·omega
    ·exact hm h
   ·refine List.nodup_append.2 ⟨tK,n2,fun x hx y hy e=>?_⟩;subst e;rcases yS x hx with h | h
    ·exact n12 x h x hy I
    ·have:=aL x hy;omega
   ·rw [Zh];exact ⟨[l],g2++f2,I,⟨I,hl⟩,ch.append_iff.2 ⟨g2,f2,I,pb,h2.loc fun b dD=>hk.block b (aL b dD) (fun hf=>n12 b hf b dD I)⟩⟩
   ·intro b dD;rcases List.mem_append.1 dD with h | h
    ·rcases yS b h with h | h
     ·exact hb b (List.mem_append_left _ h)
     ·exact .inl (Nat.le_trans k4.size h)
    ·exact hb b (List.mem_append_right _ h)
  have hm6:Mem c ((own l rc x++rest)++mC (w.heap.size::D)) (w'.putObj l (gy rc .exhausted (pd x))):=by
   have:=(Mem.store hm5 (w':=w'.putObj l (gy rc .exhausted (pd x))) ⟨I,I,I,Nat.le_refl _,by simp,fun k _ hn=>World.putObj_heap_other (by simpa using hn)⟩ (World.putObj_heap_same (ki (w:=w') tL))).wo
   rwa [Zh]
  have Gi:St c (w.heap.size::D) sl (own l rc x++rest) { a with defers:=[{ target:=.collected w.heap.size,args:=#[] }]++a.defers } (w'.putObj l (gy rc .exhausted (pd x))):=
   ⟨hm6,hs0.cP,hs0.size,by simp [hs0.defers,mark]⟩
  cases hj:pd x with
  | none=>rw [hj] at Gi;exact kn l rc x w.heap.size hx hj _ _ Gi
  | some j=>rw [hj] at Gi;exact kj l rc x w.heap.size j hx hj _ _ Gi
end
end Go.SL
namespace Go.SL
open Go
section
variable {P:Program} {c:Cx} {sl:aI} {hs:List a8} {dst:Option Tmp} {ty:TypeId} {pos:String} {af:Array Edge} {g:Option (Nat×Bool)}
theorem Av {t e:TypeId} (hu:iU P t (.slice e)):P.elem t=e:=by simp [Program.elem,hu.eq]
theorem pO {t e:TypeId} (hu:iU P t (.slice e)):P.underlying t=some (.slice (P.elem t)):=by rw [Av hu];exact hu.eq
theorem value_of {i:Sem Value} {v:Value} {w:World} (h:i.run P w=.ok v w):(do let x <- i;pure (Next.value x):Sem Next).run P w=.ok (.value v) w:=by
 rw [Sem.run_bind,h];rfl
theorem fY {t e:TypeId} {n:Nat} {agg:Bool} {x y:Operand} {a:Option Addr} {len cap:Nat} {k:IntKind} {h:Int} [hu:iU P t (.slice e)] [Ty P e agg n] (hx:Is sl x (.slice a len cap)) (hy:Is sl y (.int k h)) (h0:0<=h) (h1:h<=cap) :
  cQ P c sl hs ⟨dst,.slice t x none (some y) none,ty,pos,af,g⟩ (sliced a 0 h.toNat cap n):=
 ⟨by simp,fun ac w ha _=>by
  have:=run_slice_h (P:=P) w t a len cap (pO hu) k h h0 h1;simp only [execOp,hx ac ha,hy ac ha,Option.map];refine value_of ?_;rw [run_sliceAt_slice _ _ _ _ _ _ (pO hu),this,Av hu,gr (n:=n) (agg:=agg)]
  rfl⟩
theorem qI {t e:TypeId} {n:Nat} {agg:Bool} {x y:Operand} {a:Option Addr} {len cap:Nat} {k:IntKind} {h:Int} [hu:iU P t (.slice e)] [Ty P e agg n] (hx:Is sl x (.slice a len cap)) (hy:Is sl y (.int k h)) (h0:0<=h) (h1:h<=len) :
  cQ P c sl hs ⟨dst,.slice t x (some y) none none,ty,pos,af,g⟩ (sliced a h.toNat len cap n):=
 ⟨by simp,fun ac w ha _=>by
  have:=run_slice_l (P:=P) w t a len cap (pO hu) k h h0 h1;simp only [execOp,hx ac ha,hy ac ha,Option.map];refine value_of ?_;rw [run_sliceAt_slice _ _ _ _ _ _ (pO hu),this,Av hu,gr (n:=n) (agg:=agg)]
  rfl⟩
theorem cm {t:TypeId} {n:Nat} {x:Operand} {b o:Nat} {cs vs:List Value} {E:TypeId} {fz:Nat×Nat} {hs':List a8} [Ty P t true n] (hx:Is sl x (.pointer (some ⟨b,o,none⟩))) (ht:Take hs (SL.bC b (.cells cs.toArray E fz)) hs') (hv:eu cs o n=vs) (hl:vs.length=n) :
  cQ P c sl hs ⟨dst,.load t x,ty,pos,af,g⟩ (.agg vs.toArray):=jD hx (eU.bC ht hv) hl
theorem bE {r:Option Nat} {D:List Nat} {ops:Array Oper} {Q:Exit->Act->World->Prop} {d:Nat} {rest:List Oper} {hs' hs2:List a8} {t e:TypeId} {agg:Bool} {size bytes:Nat} {z:Value} {x y:Operand} {v:Value} {n b o m cp:Nat} {xs news cs:List Value} {E:TypeId} {fz:Nat×Nat} [iU P t (.slice e)] [Ty P e agg size] [lQ P e z] [wV P e bytes]
  (hx:Is sl x v) (hy:Is sl y (.slice (some ⟨b,o,none⟩) m cp)) (ht:Take hs (row e size v n xs) hs') (ht2:Take hs (SL.bC b (.cells cs.toArray E fz)) hs2) (hv:eu cs o (m*size)=news) (hl:news.length=m*size) (h1:∀ u∈news,u.oneCell'=true) (hz:z.cells.size=size) (hsz:Nat.blt 0 size=true) (hb0:Nat.blt 0 bytes=true)
  (hb:(n+m)*bytes<=140737488355328) (hd:Nat.blt d c.nt=true)
  (k:∀ v',Tr c D ((d,v')::sl) (row e size v' (n+m) (xs++news)::hs') (WL P r ops Q rest)) :
  Tr c D sl hs (WL P r ops Q (⟨some d,.call ⟨.builtin .append,#[x,y],#[t,t]⟩,ty,pos,af,none⟩::rest)):=
 ye hx hy ht (eU.bC ht2 hv) hl h1 hz hsz hb0 hb hd k
theorem kW {fn:Func} {t:Tmp} {T:TypeId} {b o n:Nat} {cs vs:List Value} {E:TypeId} {fz:Nat×Nat} {hs':List a8} (h:fn.results=#[.cell t T]) (hT:Ty P T true n) (hp:cJ sl t=some (.pointer (some ⟨b,o,none⟩))) (ht:Take hs (SL.bC b (.cells cs.toArray E fz)) hs') (hv:eu cs o n=vs) (hl:vs.length=n):Ends P fn c sl hs (.agg vs.toArray):=
 NY h hp (eU.bC ht hv) hl
theorem P6 {r:Option Nat} {D:List Nat} {ops:Array Oper} {Q:Exit->Act->World->Prop} {d:Option Tmp} {op:Op} {rest:List Oper} {j gs:Nat} {want:Bool} (hj:((ops[j]?).bind (·.dst))=some gs) (hq:cJ sl gs=some (.bool want))
  (k:Tr c D sl hs (WL P r ops Q (⟨d,op,ty,pos,af,none⟩::rest))):Tr c D sl hs (WL P r ops Q (⟨d,op,ty,pos,af,some (j,want)⟩::rest)):=fun a w a7=>by
 have h:=k a w a7;unfold WL at h ⊢;rw [if_pos (by simp [Region.wanted])] at h;rw [k7 (o:=⟨d,op,ty,pos,af,some (j,want)⟩) (c0:=true) I hj a7.cP (by rw [hq];rfl),if_pos (by simp)];exact h
theorem Rd.sliced {w:World} {a:Option Addr} {len cap sz:Nat} {xs:List (List Value)} (h:Rd w (.slice a len cap) sz xs) {l m:Nat} (hl:l<=m) (hm:m<=len):Rd w (Go.sliced a l m cap sz) sz ((xs.take m).drop l):=by
 obtain ⟨a',iu,b,o,e,h1,h2,h3,h4⟩:=h;cases e;have e:((xs.take m).drop l).length=m-l:=by simp;omega
 by_cases hc:cap=l
 ·refine ⟨a,cap-l,b,o,?_,by omega,by omega,fun hn=>?_,fun i r hr=>?_⟩
  ·simp [Go.sliced,hc,e]
  ·exact absurd (List.eq_nil_of_length_eq_zero (by omega)) hn
  ·have:=(List.getElem?_eq_some_iff.1 hr).1;omega
 ·refine ⟨a.map (·.add (l*sz)),cap-l,b,o+l*sz,?_,by omega,by omega,fun hn=>?_,fun i r hr=>?_⟩
  ·simp [Go.sliced,hc,e]
  ·have hx:xs≠[]:=by intro e;subst e;simp at hn
   rw [h3 hx];by_cases e0:l*sz=0
   ·simp [Addr.add,e0]
   ·simp [Addr.add,e0]
  ·rw [List.getElem?_drop,List.getElem?_take] at hr;split at hr
   ·obtain ⟨q1,q2⟩:=h4 _ _ hr;refine ⟨q1,fun j u hu=>?_⟩;have:=q2 j u hu;rw [show o+l*sz+i*sz+j=o+(l+i)*sz+j by rw [Nat.add_mul];omega];exact this
   ·simp at hr
end
end Go.SL
namespace Go.Proofs
open Go Go.SL
instance :PO Tryz.prog:=⟨by kernel_rfl⟩
instance :Ty Tryz.prog 3 false 1:=⟨by kernel_rfl⟩
instance :iU Tryz.prog 3 (.int .i64):=⟨by kernel_rfl⟩
instance :lQ Tryz.prog 3 (.int .i64 0):=⟨by kernel_rfl⟩
instance :wV Tryz.prog 3 8:=⟨by kernel_rfl⟩
instance :Ty Tryz.prog 4 false 1:=⟨by kernel_rfl⟩
instance :iU Tryz.prog 4 (.bool):=⟨by kernel_rfl⟩
instance :lQ Tryz.prog 4 (.bool false):=⟨by kernel_rfl⟩
instance :wV Tryz.prog 4 1:=⟨by kernel_rfl⟩
instance :Ty Tryz.prog 9 false 1:=⟨by kernel_rfl⟩
instance :iU Tryz.prog 9 (.string):=⟨by kernel_rfl⟩
instance :lQ Tryz.prog 9 (.string ⟨#[]⟩):=⟨by kernel_rfl⟩
instance :wV Tryz.prog 9 16:=⟨by kernel_rfl⟩
instance :Ty Tryz.prog 22 false 1:=⟨by kernel_rfl⟩
instance :iU Tryz.prog 22 (.slice 118):=⟨by kernel_rfl⟩
instance :Ty Tryz.prog 23 false 1:=⟨by kernel_rfl⟩
instance :iU Tryz.prog 23 (.slice 88):=⟨by kernel_rfl⟩
instance :Ty Tryz.prog 24 false 1:=⟨by kernel_rfl⟩
instance :iU Tryz.prog 24 (.slice 122):=⟨by kernel_rfl⟩
instance :Ty Tryz.prog 25 false 1:=⟨by kernel_rfl⟩
instance :iU Tryz.prog 25 (.slice 180):=⟨by kernel_rfl⟩
instance :Ty Tryz.prog 27 true 6:=⟨by kernel_rfl⟩
instance :lQ Tryz.prog 27 (.agg #[.int .i64 0,.int .i64 0,.slice none 0 0,.slice none 0 0,.slice none 0 0,.slice none 0 0]):=⟨by kernel_rfl⟩
instance :Cz Tryz.prog 27 [(0,1),(1,1),(2,1),(3,1),(4,1),(5,1)] [.int .i64 0,.int .i64 0,.slice none 0 0,.slice none 0 0,.slice none 0 0,.slice none 0 0]:=⟨by kernel_rfl⟩
instance :eH Tryz.prog 27 0 0:=⟨by kernel_rfl⟩
instance :eH Tryz.prog 27 1 1:=⟨by kernel_rfl⟩
instance :eH Tryz.prog 27 2 2:=⟨by kernel_rfl⟩
instance :eH Tryz.prog 27 3 3:=⟨by kernel_rfl⟩
instance :eH Tryz.prog 27 4 4:=⟨by kernel_rfl⟩
instance :eH Tryz.prog 27 5 5:=⟨by kernel_rfl⟩
instance :Ty Tryz.prog 29 true 3:=⟨by kernel_rfl⟩
instance :eH Tryz.prog 29 0 0:=⟨by kernel_rfl⟩
instance :eH Tryz.prog 29 1 1:=⟨by kernel_rfl⟩
instance :eH Tryz.prog 29 2 2:=⟨by kernel_rfl⟩
instance :Ty Tryz.prog 32 false 1:=⟨by kernel_rfl⟩
instance :iU Tryz.prog 32 (.slice 9):=⟨by kernel_rfl⟩
instance :lQ Tryz.prog 32 (.slice none 0 0):=⟨by kernel_rfl⟩
instance :wV Tryz.prog 32 24:=⟨by kernel_rfl⟩
instance :Ty Tryz.prog 33 false 1:=⟨by kernel_rfl⟩
instance :lQ Tryz.prog 33 (.int .i64 0):=⟨by kernel_rfl⟩
instance :Ty Tryz.prog 36 false 1:=⟨by kernel_rfl⟩
instance :iU Tryz.prog 36 (.slice 186):=⟨by kernel_rfl⟩
instance :Ty Tryz.prog 37 false 1:=⟨by kernel_rfl⟩
instance :iU Tryz.prog 37 (.slice 90):=⟨by kernel_rfl⟩
instance :Ty Tryz.prog 38 false 1:=⟨by kernel_rfl⟩
instance :iU Tryz.prog 38 (.slice 187):=⟨by kernel_rfl⟩
instance :Ty Tryz.prog 39 false 1:=⟨by kernel_rfl⟩
instance :iU Tryz.prog 39 (.slice 188):=⟨by kernel_rfl⟩
instance :Ty Tryz.prog 41 true 6:=⟨by kernel_rfl⟩
instance :lQ Tryz.prog 41 (.agg #[.int .i64 0,.int .i64 0,.slice none 0 0,.slice none 0 0,.slice none 0 0,.slice none 0 0]):=⟨by kernel_rfl⟩
instance :Cz Tryz.prog 41 [(0,1),(1,1),(2,1),(3,1),(4,1),(5,1)] [.int .i64 0,.int .i64 0,.slice none 0 0,.slice none 0 0,.slice none 0 0,.slice none 0 0]:=⟨by kernel_rfl⟩
instance :eH Tryz.prog 41 0 0:=⟨by kernel_rfl⟩
instance :eH Tryz.prog 41 1 1:=⟨by kernel_rfl⟩
instance :eH Tryz.prog 41 2 2:=⟨by kernel_rfl⟩
instance :eH Tryz.prog 41 3 3:=⟨by kernel_rfl⟩
instance :eH Tryz.prog 41 4 4:=⟨by kernel_rfl⟩
instance :eH Tryz.prog 41 5 5:=⟨by kernel_rfl⟩
instance :Ty Tryz.prog 49 false 1:=⟨by kernel_rfl⟩
instance :iU Tryz.prog 49 (.slice 3):=⟨by kernel_rfl⟩
instance :lQ Tryz.prog 49 (.slice none 0 0):=⟨by kernel_rfl⟩
instance :iU Tryz.prog 66 (.slice 69):=⟨by kernel_rfl⟩
instance :Ty Tryz.prog 69 true 2:=⟨by kernel_rfl⟩
instance :lQ Tryz.prog 69 (.agg #[.string ⟨#[]⟩,.slice none 0 0]):=⟨by kernel_rfl⟩
instance :wV Tryz.prog 69 40:=⟨by kernel_rfl⟩
instance :Cz Tryz.prog 69 [(0,1),(1,1)] [.string ⟨#[]⟩,.slice none 0 0]:=⟨by kernel_rfl⟩
instance :eH Tryz.prog 69 0 0:=⟨by kernel_rfl⟩
instance :eH Tryz.prog 69 1 1:=⟨by kernel_rfl⟩
instance :Ty Tryz.prog 72 false 1:=⟨by kernel_rfl⟩
instance :iU Tryz.prog 72 (.slice 78):=⟨by kernel_rfl⟩
instance :Ty Tryz.prog 78 true 2:=⟨by kernel_rfl⟩
instance :lQ Tryz.prog 78 (.agg #[.string ⟨#[]⟩,.slice none 0 0]):=⟨by kernel_rfl⟩
instance :wV Tryz.prog 78 40:=⟨by kernel_rfl⟩
instance :Cz Tryz.prog 78 [(0,1),(1,1)] [.string ⟨#[]⟩,.slice none 0 0]:=⟨by kernel_rfl⟩
instance :eH Tryz.prog 78 0 0:=⟨by kernel_rfl⟩
instance :eH Tryz.prog 78 1 1:=⟨by kernel_rfl⟩
instance :Ty Tryz.prog 88 true 3:=⟨by kernel_rfl⟩
instance :lQ Tryz.prog 88 (.agg #[.string ⟨#[]⟩,.int .i64 0,.bool false]):=⟨by kernel_rfl⟩
instance :wV Tryz.prog 88 32:=⟨by kernel_rfl⟩
instance :eH Tryz.prog 88 0 0:=⟨by kernel_rfl⟩
instance :eH Tryz.prog 88 1 1:=⟨by kernel_rfl⟩
instance :Ty Tryz.prog 90 true 3:=⟨by kernel_rfl⟩
instance :lQ Tryz.prog 90 (.agg #[.string ⟨#[]⟩,.int .i64 0,.bool false]):=⟨by kernel_rfl⟩
instance :wV Tryz.prog 90 32:=⟨by kernel_rfl⟩
instance :Cz Tryz.prog 90 [(0,1),(1,1),(2,1)] [.string ⟨#[]⟩,.int .i64 0,.bool false]:=⟨by kernel_rfl⟩
instance :eH Tryz.prog 90 0 0:=⟨by kernel_rfl⟩
instance :eH Tryz.prog 90 1 1:=⟨by kernel_rfl⟩
instance :eH Tryz.prog 90 2 2:=⟨by kernel_rfl⟩
instance :iU Tryz.prog 96 (.slice 182):=⟨by kernel_rfl⟩
instance :Ty Tryz.prog 118 true 2:=⟨by kernel_rfl⟩
instance :lQ Tryz.prog 118 (.agg #[.string ⟨#[]⟩,.int .i64 0]):=⟨by kernel_rfl⟩
instance :wV Tryz.prog 118 24:=⟨by kernel_rfl⟩
instance :eH Tryz.prog 118 0 0:=⟨by kernel_rfl⟩
instance :eH Tryz.prog 118 1 1:=⟨by kernel_rfl⟩
instance :Ty Tryz.prog 122 true 3:=⟨by kernel_rfl⟩
instance :lQ Tryz.prog 122 (.agg #[.string ⟨#[]⟩,.int .i64 0,.int .i64 0]):=⟨by kernel_rfl⟩
instance :wV Tryz.prog 122 32:=⟨by kernel_rfl⟩
instance :eH Tryz.prog 122 0 0:=⟨by kernel_rfl⟩
instance :eH Tryz.prog 122 1 1:=⟨by kernel_rfl⟩
instance :eH Tryz.prog 122 2 2:=⟨by kernel_rfl⟩
instance :iU Tryz.prog 156 (.slice 32):=⟨by kernel_rfl⟩
instance :Ty Tryz.prog 180 true 3:=⟨by kernel_rfl⟩
instance :lQ Tryz.prog 180 (.agg #[.int .i64 0,.string ⟨#[]⟩,.string ⟨#[]⟩]):=⟨by kernel_rfl⟩
instance :wV Tryz.prog 180 40:=⟨by kernel_rfl⟩
instance :Cz Tryz.prog 180 [(0,1),(1,1),(2,1)] [.int .i64 0,.string ⟨#[]⟩,.string ⟨#[]⟩]:=⟨by kernel_rfl⟩
instance :eH Tryz.prog 180 0 0:=⟨by kernel_rfl⟩
instance :eH Tryz.prog 180 1 1:=⟨by kernel_rfl⟩
instance :eH Tryz.prog 180 2 2:=⟨by kernel_rfl⟩
instance :Ty Tryz.prog 182 true 2:=⟨by kernel_rfl⟩
instance :lQ Tryz.prog 182 (.agg #[.int .i64 0,.slice none 0 0]):=⟨by kernel_rfl⟩
instance :Cz Tryz.prog 182 [(0,1),(1,1)] [.int .i64 0,.slice none 0 0]:=⟨by kernel_rfl⟩
instance :eH Tryz.prog 182 0 0:=⟨by kernel_rfl⟩
instance :eH Tryz.prog 182 1 1:=⟨by kernel_rfl⟩
instance :Ty Tryz.prog 186 true 2:=⟨by kernel_rfl⟩
instance :lQ Tryz.prog 186 (.agg #[.string ⟨#[]⟩,.int .i64 0]):=⟨by kernel_rfl⟩
instance :wV Tryz.prog 186 24:=⟨by kernel_rfl⟩
instance :Cz Tryz.prog 186 [(0,1),(1,1)] [.string ⟨#[]⟩,.int .i64 0]:=⟨by kernel_rfl⟩
instance :eH Tryz.prog 186 0 0:=⟨by kernel_rfl⟩
instance :eH Tryz.prog 186 1 1:=⟨by kernel_rfl⟩
instance :Ty Tryz.prog 187 true 3:=⟨by kernel_rfl⟩
instance :lQ Tryz.prog 187 (.agg #[.string ⟨#[]⟩,.int .i64 0,.int .i64 0]):=⟨by kernel_rfl⟩
instance :wV Tryz.prog 187 32:=⟨by kernel_rfl⟩
instance :Cz Tryz.prog 187 [(0,1),(1,1),(2,1)] [.string ⟨#[]⟩,.int .i64 0,.int .i64 0]:=⟨by kernel_rfl⟩
instance :eH Tryz.prog 187 0 0:=⟨by kernel_rfl⟩
instance :eH Tryz.prog 187 1 1:=⟨by kernel_rfl⟩
instance :eH Tryz.prog 187 2 2:=⟨by kernel_rfl⟩
instance :Ty Tryz.prog 188 true 3:=⟨by kernel_rfl⟩
instance :lQ Tryz.prog 188 (.agg #[.int .i64 0,.string ⟨#[]⟩,.string ⟨#[]⟩]):=⟨by kernel_rfl⟩
instance :wV Tryz.prog 188 40:=⟨by kernel_rfl⟩
instance :Cz Tryz.prog 188 [(0,1),(1,1),(2,1)] [.int .i64 0,.string ⟨#[]⟩,.string ⟨#[]⟩]:=⟨by kernel_rfl⟩
instance :eH Tryz.prog 188 0 0:=⟨by kernel_rfl⟩
instance :eH Tryz.prog 188 1 1:=⟨by kernel_rfl⟩
instance :eH Tryz.prog 188 2 2:=⟨by kernel_rfl⟩
instance :Ty Tryz.prog 199 false 1:=⟨by kernel_rfl⟩
instance :Ty Tryz.prog 220 false 1:=⟨by kernel_rfl⟩
instance :lQ Tryz.prog 220 (.nilFunc):=⟨by kernel_rfl⟩
instance :iU Tryz.prog 232 (.slice 4):=⟨by kernel_rfl⟩
instance :Ty Tryz.prog 244 true 2:=⟨by kernel_rfl⟩
instance :lQ Tryz.prog 244 (.agg #[.slice none 0 0,.int .i64 0]):=⟨by kernel_rfl⟩
instance :wV Tryz.prog 244 32:=⟨by kernel_rfl⟩
instance :Cz Tryz.prog 244 [(0,1),(1,1)] [.slice none 0 0,.int .i64 0]:=⟨by kernel_rfl⟩
instance :eH Tryz.prog 244 0 0:=⟨by kernel_rfl⟩
instance :eH Tryz.prog 244 1 1:=⟨by kernel_rfl⟩
instance :Ty Tryz.prog 254 false 1:=⟨by kernel_rfl⟩
instance :iU Tryz.prog 254 (.map 9 257):=⟨by kernel_rfl⟩
instance :lQ Tryz.prog 254 (.map none):=⟨by kernel_rfl⟩
instance :Ty Tryz.prog 257 true 3:=⟨by kernel_rfl⟩
instance :lQ Tryz.prog 257 (.agg #[.int .i64 0,.int .i64 0,.int .i64 0]):=⟨by kernel_rfl⟩
instance :Cz Tryz.prog 257 [(0,1),(1,1),(2,1)] [.int .i64 0,.int .i64 0,.int .i64 0]:=⟨by kernel_rfl⟩
instance :eH Tryz.prog 257 0 0:=⟨by kernel_rfl⟩
instance :FTy Tryz.prog 257 0 0 3:=⟨by kernel_rfl⟩
instance :eH Tryz.prog 257 1 1:=⟨by kernel_rfl⟩
instance :eH Tryz.prog 257 2 2:=⟨by kernel_rfl⟩
instance :Ty Tryz.prog 264 true 2:=⟨by kernel_rfl⟩
instance :Cz Tryz.prog 264 [(0,1),(1,1)] [.string ⟨#[]⟩,.nilFunc]:=⟨by kernel_rfl⟩
instance :eH Tryz.prog 264 0 0:=⟨by kernel_rfl⟩
instance :Ty Tryz.prog 265 true 10:=⟨by kernel_rfl⟩
instance :iU Tryz.prog 265 (.array 5 264):=⟨by kernel_rfl⟩
instance :lQ Tryz.prog 265 (.agg #[.string ⟨#[]⟩,.nilFunc,.string ⟨#[]⟩,.nilFunc,.string ⟨#[]⟩,.nilFunc,.string ⟨#[]⟩,.nilFunc,.string ⟨#[]⟩,.nilFunc]):=⟨by kernel_rfl⟩
instance :Cz Tryz.prog 265 [(0,2),(2,2),(4,2),(6,2),(8,2)] [.string ⟨#[]⟩,.nilFunc,.string ⟨#[]⟩,.nilFunc,.string ⟨#[]⟩,.nilFunc,.string ⟨#[]⟩,.nilFunc,.string ⟨#[]⟩,.nilFunc]:=⟨by kernel_rfl⟩
instance :iU Tryz.prog 287 (.slice 33):=⟨by kernel_rfl⟩
instance :Ty Tryz.prog 299 true 2:=⟨by kernel_rfl⟩
instance :iU Tryz.prog 299 (.array 2 3):=⟨by kernel_rfl⟩
instance :lQ Tryz.prog 299 (.agg #[.int .i64 0,.int .i64 0]):=⟨by kernel_rfl⟩
instance :Cz Tryz.prog 299 [(0,1),(1,1)] [.int .i64 0,.int .i64 0]:=⟨by kernel_rfl⟩
instance :Ty Tryz.prog 329 false 1:=⟨by kernel_rfl⟩
instance :iU Tryz.prog 329 (.slice 244):=⟨by kernel_rfl⟩
instance :lQ Tryz.prog 329 (.slice none 0 0):=⟨by kernel_rfl⟩
instance :AL Tryz.prog 88 [9,3,4]:=⟨by kernel_rfl,by kernel_rfl,by kernel_rfl⟩
instance :AL Tryz.prog 118 [9,3]:=⟨by kernel_rfl,by kernel_rfl,by kernel_rfl⟩
instance :AL Tryz.prog 122 [9,3,3]:=⟨by kernel_rfl,by kernel_rfl,by kernel_rfl⟩
instance :AL Tryz.prog 180 [3,9,9]:=⟨by kernel_rfl,by kernel_rfl,by kernel_rfl⟩
instance :AL Tryz.prog 188 [3,9,9]:=⟨by kernel_rfl,by kernel_rfl,by kernel_rfl⟩
instance :AL Tryz.prog 299 [3,3]:=⟨by kernel_rfl,by kernel_rfl,by kernel_rfl⟩
instance :bU Tryz.prog 17:=⟨by kernel_rfl⟩
instance :bU Tryz.prog 18:=⟨by kernel_rfl⟩
instance :bU Tryz.prog 19:=⟨by kernel_rfl⟩
instance :bU Tryz.prog 20:=⟨by kernel_rfl⟩
instance :bU Tryz.prog 21:=⟨by kernel_rfl⟩
instance :bU Tryz.prog 22:=⟨by kernel_rfl⟩
instance :bU Tryz.prog 23:=⟨by kernel_rfl⟩
instance :bU Tryz.prog 24:=⟨by kernel_rfl⟩
instance :bU Tryz.prog 25:=⟨by kernel_rfl⟩
instance :bU Tryz.prog 26:=⟨by kernel_rfl⟩
instance :bU Tryz.prog 27:=⟨by kernel_rfl⟩
instance :bU Tryz.prog 28:=⟨by kernel_rfl⟩
instance :bU Tryz.prog 29:=⟨by kernel_rfl⟩
instance :bU Tryz.prog 30:=⟨by kernel_rfl⟩
instance :bU Tryz.prog 31:=⟨by kernel_rfl⟩
instance :bU Tryz.prog 32:=⟨by kernel_rfl⟩
instance :bU Tryz.prog 33:=⟨by kernel_rfl⟩
instance :bU Tryz.prog 34:=⟨by kernel_rfl⟩
instance :bU Tryz.prog 35:=⟨by kernel_rfl⟩
instance :bU Tryz.prog 36:=⟨by kernel_rfl⟩
instance :bU Tryz.prog 37:=⟨by kernel_rfl⟩
instance :bU Tryz.prog 38:=⟨by kernel_rfl⟩
instance :bU Tryz.prog 39:=⟨by kernel_rfl⟩
instance :bU Tryz.prog 40:=⟨by kernel_rfl⟩
instance :bU Tryz.prog 41:=⟨by kernel_rfl⟩
instance :bU Tryz.prog 42:=⟨by kernel_rfl⟩
instance :bU Tryz.prog 43:=⟨by kernel_rfl⟩
instance :bU Tryz.prog 45:=⟨by kernel_rfl⟩
instance :bU Tryz.prog 47:=⟨by kernel_rfl⟩
instance :bU Tryz.prog 48:=⟨by kernel_rfl⟩
instance :bU Tryz.prog 53:=⟨by kernel_rfl⟩
instance :bU Tryz.prog 54:=⟨by kernel_rfl⟩
instance :bU Tryz.prog 56:=⟨by kernel_rfl⟩
instance :bU Tryz.prog 57:=⟨by kernel_rfl⟩
instance :bU Tryz.prog 58:=⟨by kernel_rfl⟩
instance :bU Tryz.prog 59:=⟨by kernel_rfl⟩
instance :bU Tryz.prog 60:=⟨by kernel_rfl⟩
instance :bU Tryz.prog 64:=⟨by kernel_rfl⟩
instance :bU Tryz.prog 67:=⟨by kernel_rfl⟩
instance :bU Tryz.prog 69:=⟨by kernel_rfl⟩
instance :bU Tryz.prog 70:=⟨by kernel_rfl⟩
instance :bU Tryz.prog 71:=⟨by kernel_rfl⟩
instance :bU Tryz.prog 72:=⟨by kernel_rfl⟩
instance :bU Tryz.prog 73:=⟨by kernel_rfl⟩
instance :bU Tryz.prog 74:=⟨by kernel_rfl⟩
instance :bU Tryz.prog 75:=⟨by kernel_rfl⟩
instance :bU Tryz.prog 77:=⟨by kernel_rfl⟩
instance :bU Tryz.prog 78:=⟨by kernel_rfl⟩
instance :bU Tryz.prog 84:=⟨by kernel_rfl⟩
instance :bU Tryz.prog 85:=⟨by kernel_rfl⟩
instance :bU Tryz.prog 105:=⟨by kernel_rfl⟩
instance :bU Tryz.prog 106:=⟨by kernel_rfl⟩
instance :bU Tryz.prog 107:=⟨by kernel_rfl⟩
instance :bU Tryz.prog 108:=⟨by kernel_rfl⟩
instance :bU Tryz.prog 109:=⟨by kernel_rfl⟩
instance :bU Tryz.prog 110:=⟨by kernel_rfl⟩
instance :bU Tryz.prog 111:=⟨by kernel_rfl⟩
instance :bU Tryz.prog 112:=⟨by kernel_rfl⟩
instance :bU Tryz.prog 113:=⟨by kernel_rfl⟩
instance :bU Tryz.prog 114:=⟨by kernel_rfl⟩
instance :bU Tryz.prog 115:=⟨by kernel_rfl⟩
instance :bU Tryz.prog 116:=⟨by kernel_rfl⟩
instance :bU Tryz.prog 117:=⟨by kernel_rfl⟩
instance :bU Tryz.prog 118:=⟨by kernel_rfl⟩
instance :bU Tryz.prog 119:=⟨by kernel_rfl⟩
instance :bU Tryz.prog 120:=⟨by kernel_rfl⟩
instance :bU Tryz.prog 121:=⟨by kernel_rfl⟩
instance :bU Tryz.prog 122:=⟨by kernel_rfl⟩
instance :bU Tryz.prog 123:=⟨by kernel_rfl⟩
instance :bU Tryz.prog 124:=⟨by kernel_rfl⟩
instance :bU Tryz.prog 125:=⟨by kernel_rfl⟩
instance :bU Tryz.prog 126:=⟨by kernel_rfl⟩
instance :bU Tryz.prog 127:=⟨by kernel_rfl⟩
instance :bU Tryz.prog 128:=⟨by kernel_rfl⟩
instance :bU Tryz.prog 129:=⟨by kernel_rfl⟩
instance :bU Tryz.prog 130:=⟨by kernel_rfl⟩
instance :bU Tryz.prog 131:=⟨by kernel_rfl⟩
instance :bU Tryz.prog 132:=⟨by kernel_rfl⟩
instance :bU Tryz.prog 133:=⟨by kernel_rfl⟩
instance :bU Tryz.prog 134:=⟨by kernel_rfl⟩
instance :bU Tryz.prog 135:=⟨by kernel_rfl⟩
instance :bU Tryz.prog 136:=⟨by kernel_rfl⟩
instance :bU Tryz.prog 137:=⟨by kernel_rfl⟩
instance :bU Tryz.prog 138:=⟨by kernel_rfl⟩
instance :bU Tryz.prog 139:=⟨by kernel_rfl⟩
instance :bU Tryz.prog 140:=⟨by kernel_rfl⟩
instance :bU Tryz.prog 141:=⟨by kernel_rfl⟩
instance :bU Tryz.prog 142:=⟨by kernel_rfl⟩
instance :bU Tryz.prog 143:=⟨by kernel_rfl⟩
instance :bU Tryz.prog 144:=⟨by kernel_rfl⟩
instance :bU Tryz.prog 145:=⟨by kernel_rfl⟩
instance :bU Tryz.prog 146:=⟨by kernel_rfl⟩
instance :bU Tryz.prog 147:=⟨by kernel_rfl⟩
instance :bU Tryz.prog 148:=⟨by kernel_rfl⟩
instance :bU Tryz.prog 149:=⟨by kernel_rfl⟩
instance :bU Tryz.prog 150:=⟨by kernel_rfl⟩
instance :bU Tryz.prog 151:=⟨by kernel_rfl⟩
instance :bU Tryz.prog 152:=⟨by kernel_rfl⟩
instance :bU Tryz.prog 153:=⟨by kernel_rfl⟩
instance :bU Tryz.prog 154:=⟨by kernel_rfl⟩
instance :bU Tryz.prog 155:=⟨by kernel_rfl⟩
instance :bU Tryz.prog 156:=⟨by kernel_rfl⟩
instance :bU Tryz.prog 157:=⟨by kernel_rfl⟩
instance :bU Tryz.prog 158:=⟨by kernel_rfl⟩
instance :bU Tryz.prog 159:=⟨by kernel_rfl⟩
instance :bU Tryz.prog 160:=⟨by kernel_rfl⟩
instance :bU Tryz.prog 161:=⟨by kernel_rfl⟩
instance :bU Tryz.prog 162:=⟨by kernel_rfl⟩
instance :bU Tryz.prog 163:=⟨by kernel_rfl⟩
instance :bU Tryz.prog 164:=⟨by kernel_rfl⟩
instance :bU Tryz.prog 165:=⟨by kernel_rfl⟩
instance :bU Tryz.prog 166:=⟨by kernel_rfl⟩
instance :bU Tryz.prog 167:=⟨by kernel_rfl⟩
instance :bU Tryz.prog 171:=⟨by kernel_rfl⟩
instance :bU Tryz.prog 172:=⟨by kernel_rfl⟩
instance :bU Tryz.prog 173:=⟨by kernel_rfl⟩
instance :bU Tryz.prog 174:=⟨by kernel_rfl⟩
instance :bU Tryz.prog 175:=⟨by kernel_rfl⟩
instance :bU Tryz.prog 176:=⟨by kernel_rfl⟩
instance :bU Tryz.prog 177:=⟨by kernel_rfl⟩
instance :bU Tryz.prog 178:=⟨by kernel_rfl⟩
instance :bU Tryz.prog 179:=⟨by kernel_rfl⟩
instance :bU Tryz.prog 180:=⟨by kernel_rfl⟩
instance :bU Tryz.prog 181:=⟨by kernel_rfl⟩
instance :bU Tryz.prog 182:=⟨by kernel_rfl⟩
instance :bU Tryz.prog 183:=⟨by kernel_rfl⟩
instance :bU Tryz.prog 184:=⟨by kernel_rfl⟩
instance :bU Tryz.prog 186:=⟨by kernel_rfl⟩
instance :bU Tryz.prog 187:=⟨by kernel_rfl⟩
instance :bU Tryz.prog 189:=⟨by kernel_rfl⟩
instance :bU Tryz.prog 191:=⟨by kernel_rfl⟩
instance :bU Tryz.prog 192:=⟨by kernel_rfl⟩
instance :bU Tryz.prog 193:=⟨by kernel_rfl⟩
instance :bU Tryz.prog 221:=⟨by kernel_rfl⟩
instance :bU Tryz.prog 222:=⟨by kernel_rfl⟩
instance :bU Tryz.prog 223:=⟨by kernel_rfl⟩
instance :bU Tryz.prog 224:=⟨by kernel_rfl⟩
instance :bU Tryz.prog 225:=⟨by kernel_rfl⟩
instance :bU Tryz.prog 226:=⟨by kernel_rfl⟩
instance :bU Tryz.prog 227:=⟨by kernel_rfl⟩
instance :bU Tryz.prog 228:=⟨by kernel_rfl⟩
instance :bU Tryz.prog 229:=⟨by kernel_rfl⟩
instance :bU Tryz.prog 230:=⟨by kernel_rfl⟩
instance :bU Tryz.prog 231:=⟨by kernel_rfl⟩
instance :bU Tryz.prog 232:=⟨by kernel_rfl⟩
instance :bU Tryz.prog 233:=⟨by kernel_rfl⟩
instance :bU Tryz.prog 234:=⟨by kernel_rfl⟩
instance :bU Tryz.prog 235:=⟨by kernel_rfl⟩
instance :bU Tryz.prog 236:=⟨by kernel_rfl⟩
instance :bU Tryz.prog 237:=⟨by kernel_rfl⟩
instance :bU Tryz.prog 238:=⟨by kernel_rfl⟩
instance :bU Tryz.prog 239:=⟨by kernel_rfl⟩
instance :bU Tryz.prog 240:=⟨by kernel_rfl⟩
instance :bU Tryz.prog 241:=⟨by kernel_rfl⟩
instance :bU Tryz.prog 242:=⟨by kernel_rfl⟩
instance :bU Tryz.prog 243:=⟨by kernel_rfl⟩
instance :bU Tryz.prog 246:=⟨by kernel_rfl⟩
instance :bU Tryz.prog 247:=⟨by kernel_rfl⟩
instance :bU Tryz.prog 248:=⟨by kernel_rfl⟩
instance :bU Tryz.prog 249:=⟨by kernel_rfl⟩
instance :bU Tryz.prog 250:=⟨by kernel_rfl⟩
instance :bU Tryz.prog 251:=⟨by kernel_rfl⟩
instance :bU Tryz.prog 252:=⟨by kernel_rfl⟩
instance :bU Tryz.prog 253:=⟨by kernel_rfl⟩
instance :bU Tryz.prog 254:=⟨by kernel_rfl⟩
instance :bU Tryz.prog 255:=⟨by kernel_rfl⟩
instance :bU Tryz.prog 256:=⟨by kernel_rfl⟩
instance :bU Tryz.prog 257:=⟨by kernel_rfl⟩
instance :bU Tryz.prog 258:=⟨by kernel_rfl⟩
instance :bU Tryz.prog 259:=⟨by kernel_rfl⟩
instance :bU Tryz.prog 260:=⟨by kernel_rfl⟩
instance :bU Tryz.prog 262:=⟨by kernel_rfl⟩
instance :bU Tryz.prog 263:=⟨by kernel_rfl⟩
instance :bU Tryz.prog 264:=⟨by kernel_rfl⟩
instance :bU Tryz.prog 265:=⟨by kernel_rfl⟩
instance :bU Tryz.prog 266:=⟨by kernel_rfl⟩
instance :bU Tryz.prog 267:=⟨by kernel_rfl⟩
instance :bU Tryz.prog 268:=⟨by kernel_rfl⟩
instance :bU Tryz.prog 270:=⟨by kernel_rfl⟩
instance :bU Tryz.prog 278:=⟨by kernel_rfl⟩
instance :bU Tryz.prog 279:=⟨by kernel_rfl⟩
instance :bU Tryz.prog 297:=⟨by kernel_rfl⟩
instance :bU Tryz.prog 298:=⟨by kernel_rfl⟩
instance :bU Tryz.prog 299:=⟨by kernel_rfl⟩
instance :bU Tryz.prog 300:=⟨by kernel_rfl⟩
instance :bU Tryz.prog 301:=⟨by kernel_rfl⟩
instance :bU Tryz.prog 302:=⟨by kernel_rfl⟩
instance :bU Tryz.prog 314:=⟨by kernel_rfl⟩
instance :bU Tryz.prog 315:=⟨by kernel_rfl⟩
instance :bU Tryz.prog 316:=⟨by kernel_rfl⟩
instance :bU Tryz.prog 317:=⟨by kernel_rfl⟩
instance :bU Tryz.prog 319:=⟨by kernel_rfl⟩
instance :bU Tryz.prog 323:=⟨by kernel_rfl⟩
instance :bU Tryz.prog 324:=⟨by kernel_rfl⟩
instance :bU Tryz.prog 342:=⟨by kernel_rfl⟩
end Go.Proofs
namespace Go.SL
open Go
theorem aD.over {md fp:List Nat} {a b c:World} (h:aD md a b) (hf:∀ x∈fp,x∈md\/a.heap.size<=x) (k:aD fp b c):aD md a c:=
 ⟨k.os.trans h.os,k.tape.trans h.tape,k.output.trans h.output,Nat.le_trans h.dr k.dr,Nat.le_trans h.size k.size,fun i hi hm=>by
  rw [<- h.block i hi hm];exact k.block i (Nat.lt_of_lt_of_le hi h.size) (fun hx=>by
   rcases hf i hx with h1 | h1
   ·exact hm h1
   ·omega)⟩
def Out (md:List Nat) (v:Value) (xs:List (List Value)):Prop:=xs≠[]->∀ b,v.ownBlock=some b->b ∉ md
theorem Out.nil (v:Value) (xs:List (List Value)):Out [] v xs:=fun _ _ _ h=>by cases h
theorem Rd.jH {md:List Nat} {w w':World} {v:Value} {sz:Nat} {xs:List (List Value)} (h:Rd w v sz xs) (hn:Out md v xs) (hk:aD md w w'):Rd w' v sz xs:=by
 obtain ⟨a,cap,b,o,rfl,h2,Gv,h3,h4⟩:=h;refine ⟨a,cap,b,o,I,h2,Gv,h3,fun i r hr=>⟨(h4 i r hr).1,fun j u hu=>?_⟩⟩;have:=(h4 i r hr).2 j u hu;have hb:=World.block_lt_of_cell? w _ this;have hne:xs≠[]:=by rintro rfl;simp at hr
 rw [<- this];simp only [World.cell?];rw [hk.block b hb (hn hne b (by rw [h3 hne];rfl))]
theorem Rd.out {md fp:List Nat} {w0:World} {v:Value} {sz:Nat} {xs:List (List Value)} (h:Rd w0 v sz xs) (hsz:0<sz) (hn:Out md v xs) (hF:∀ b∈fp,b∈md\/w0.heap.size<=b):Out fp v xs:=fun hne b hb NF=>by
 obtain ⟨a,cap,b',o,rfl,h2,Gv,h3,h4⟩:=h;have ha:=h3 hne;subst ha;have:b'=b:=by simpa [Value.ownBlock] using hb
 subst this;obtain ⟨r,rs,rfl⟩:=List.exists_cons_of_ne_nil hne;obtain ⟨hl,hc⟩:=h4 0 r rfl;obtain ⟨u,us,rfl⟩:=List.exists_cons_of_ne_nil (l:=r) (by rintro rfl;simp at hl;omega);have aL:=World.block_lt_of_cell? w0 _ (hc 0 u I);rcases hF b' NF with h | h
 ·exact hn hne b' hb h
 ·exact absurd aL (by simp;omega)
theorem eU.Cl {c:Cx} {hs:List a8} {b o:Nat} {vs:List Value} (h:∀ (j:Nat) (u:Value),vs[j]? = some u->c.w0.cell? ⟨b,o+j,none⟩=some u) (Gn:b ∉ c.md):eU c hs b o vs:=
 eU.vz fun j v hv=>At.Cl (h j v hv) Gn
def AI (P:Program) (l:Nat) (args:List Value) (w0:World) (md:List Nat) (pre:a8) (post:Bool->a8):Prop:=
 ∀ W fp, aD md w0 W -> (∀ b ∈ fp, b ∈ md \/ w0.heap.size <= b) -> fp.Nodup -> pre.sat (hp W) fp -> ∃ f tmps D7 body, (Instr.yield l args.toArray).run P W = .ok (.round l f tmps D7 body) W /\
  RoundIn (FR none) 0 P l f tmps D7 body W (pB fp W post)
def Iter (P:Program) (f:FuncId) (first cap:List Value) (own:List a8) (items:List (List Value)) (w0:World) (md:List Nat) (w:World):Prop:=
 ∀ (l : Nat) (fp : List Nat) (J : Nat -> a8) (E : a8), aD md w0 w -> (∀ b ∈ fp, b ∈ md \/ w0.heap.size <= b) -> fp.Nodup -> ch (hp w) (J 0 :: own) fp ->
  (∀ k vs,items[k]? = some vs->AI P l vs w0 md (J k) (fun b=>bif b then J (k+1) else E)) ->
  bh P f (first++[.func (.yield l) #[] #[]]++cap) w fp (fun _:Bool=>True) (fun _=>.tuple #[]) (fun b=>(bif b then J items.length else E)::own)
section
variable {P:Program} {r:Option Nat} {c:Cx} {D:List Nat} {sl:aI} {hs hs':List a8} {Q:Exit->Act->World->Prop} {ι κ:Type}
variable {ops:Array Oper} {d:Nat} {ty:TypeId} {pos:String} {af:Array Edge} {rest:List Oper}
theorem xT {x:Operand} {xs:List Operand} {ts:Array TypeId} {l:Nat} {w0:World} {md:List Nat} {vs:List Value} {pre:a8} {post:Bool->a8} (hB:aD md w0 c.w0) (hF:∀ b∈c.md,b∈md\/w0.heap.size<=b) (hy:AI P l vs w0 md pre post)
  (hx:Is sl x (.func (.yield l) #[] #[])) (ha:GR sl xs vs) (hd:Nat.blt d c.nt=true) (ht:Take hs pre hs')
  (k:∀ b,Tr c D ((d,.bool b)::sl) (post b::hs') (WL P r ops Q rest)):Tr c D sl hs (WL P r ops Q (⟨some d,.call ⟨.value x,xs.toArray,ts⟩,ty,pos,af,none⟩::rest)):=fun a w a7=>by
 have hm:=a7.mem.take (ht.append _);obtain ⟨kk,fp,hn,⟨f1,f2,rfl,h1,h2⟩,hb⟩:=hm;obtain ⟨f,tmps,D7,body,gA,Q5⟩:=hy w f1 (hB.over hF kk) (fun b dD=>by
  rcases hb b (List.mem_append_left _ dD) with h | h
  ·exact .inr (Nat.le_trans hB.size h)
  ·exact hF b h) (List.nodup_append.1 hn).1 h1
 refine mH I ⟨dO _ _ _ _ _,?_⟩;rw [Oper.semAt_eq _ _ _ (by simp)];have:(execOp a.eval ⟨some d,.call ⟨.value x,xs.toArray,ts⟩,ty,pos,af,none⟩).run P w=.ok (.round l f tmps D7 body) w:=by
  simp only [execOp,resolve,hx a a7.cP,Deferred.ofValue,Sem.run_bind,Sem.run_pure,Result.andThen_ok,invoke,List.map_toArray,ha.map a7.cP];simpa using gA
 rw [this];refine ⟨by simp [FR,Fence.wide],(FW Q5).mono fun e w' ⟨b,he,hk,lN,tK,hs1,yS⟩=>?_⟩;subst he;refine k b _ _ ((a7.put (by simpa [Nat.blt_eq] using hd) (.bool b)).heap ?_);obtain ⟨n1,n2,n12⟩:=List.nodup_append.1 hn;have aL:∀ b∈f2,b<w.heap.size:=fun b dD=>let ⟨o,ho⟩:=h2.own b dD;ki ho
 refine ⟨?_,lN++f2,?_,⟨lN,f2,I,hs1,h2.loc fun b dD=>?_⟩,?_⟩
 ·refine ⟨hk.os.trans kk.os,hk.tape.trans kk.tape,hk.output.trans kk.output,Nat.le_trans kk.dr hk.dr,Nat.le_trans kk.size hk.size,fun b dD hm=>?_⟩;rw [<- kk.block b dD hm];refine hk.block b (Nat.lt_of_lt_of_le dD kk.size) (fun hf=>?_);rcases hb b (List.mem_append_left _ hf) with h | h
  ·omega
  ·exact hm h
 ·refine List.nodup_append.2 ⟨tK,n2,fun x hx y hy e=>?_⟩;subst e;rcases yS x hx with h | h
  ·exact n12 x h x hy I
  ·have:=aL x hy;omega
 ·exact hk.block b (aL b dD) (fun hf=>n12 b hf b dD I)
 ·intro b dD;rcases List.mem_append.1 dD with h | h
  ·rcases yS b h with h | h
   ·exact hb b (List.mem_append_left _ h)
   ·exact .inl (Nat.le_trans kk.size h)
  ·exact hb b (List.mem_append_right _ h)
theorem CH {l:Nat} {rc:Loop} {nt:Nat} {vs:List Value} {w0:World} {md:List Nat} {Φ:ι->Prop} {A:ι->List a8} {post:Bool->a8} {Wk:aI} (rf:bS Wk ⟨rc.tmps,[]⟩) (hn:rc.tmps.size=nt) (hlen:vs.length=rc.params.size) (hps:∀ t∈rc.params.toList,t<nt)
  (h:∀ x W fp,aD md w0 W->(∀ b∈fp,b∈md\/w0.heap.size<=b)->Φ x->Tr ⟨W,fp,nt⟩ [] (mq (rc.params.toList.zip vs) Wk) (bC l (gy rc .ready none)::A x) (WP P (some l) rc.assign (Exit.then (Ee P l rc.body (pB fp W post)) (fun _ _ _=>False)))) :
  AI P l vs w0 md (NW Φ fun x=>bC l (gy rc .ready none)::A x) post:=by
 rintro W fp hB hF jf ⟨x,hx,gQ⟩;have jT:Mem ⟨W,fp,nt⟩ (bC l (gy rc .ready none)::A x) W:=⟨.refl _ _,fp,jf,gQ,fun b hb=>.inr hb⟩
 have hb:W.heap[l]? = some (gy rc .ready none):=jT.bC .here;have hy:=run_yield (P:=P) (w:=W) (l:=l) (r:={ rc with state:=.ready,pending:=none }) (args:=vs.toArray) hb (by simpa using hlen)
 refine ⟨_,_,_,_,hy,?_⟩;refine roundIn_of_wpIn trivial ?_;obtain ⟨g1,g2⟩:=yx (rc.params.toList.zip vs) Wk rc.tmps rf hn (fun p hp=>hps p.1 (by
  obtain ⟨t,v⟩:=p;exact (List.of_mem_zip hp).1))
 have Uy:((rc.params.zip vs.toArray).foldl (fun tmps (x:Nat×Value)=>tmps.setIfInBounds x.1 x.2) rc.tmps)=(rc.params.toList.zip vs).foldl (fun (t:Array Value) p=>t.setIfInBounds p.1 p.2) rc.tmps:=by
  rw [<- Array.foldl_toList];simp
 have:=h x W fp hB hF hx ⟨(rc.params.toList.zip vs).foldl (fun (t:Array Value) p=>t.setIfInBounds p.1 p.2) rc.tmps,[]⟩ W ⟨by simpa [mC] using jT,g1,g2,I⟩
 rw [<- Uy] at this;exact this
def qg (l:Nat) (rc:Loop) (Φ:Nat->ι->Prop) (A:ι->List a8) (Ψ:κ->Prop) (B:κ->List a8) (pd:κ->Code) (k:Nat) (b:Bool):a8:=
 bif b then NW (Φ k) (fun x=>bC l (gy rc .ready none)::A x) else NW Ψ (fun y=>bC l (gy rc .done (some (pd y)))::B y)
theorem jt {g:Operand} {ps:List Tmp} {D7 body:Code} {f:FuncId} {first cap:List Value} [bU P f] (hg:Is sl g (.func (.func f) first.toArray cap.toArray))
  (own:List a8) (items:List (List Value)) (hit:∀ w,Mem c hs w->Iter P f first cap own items c.w0 c.md w)
  (Φ:Nat->ι->Prop) (A:ι->List a8) (Ψ:κ->Prop) (B:κ->List a8) (pd:κ->Code) (x0:ι) {rst:List a8} (h0:Φ 0 x0) (ht:bn hs (A x0++own) rst)
  (hlen:∀ vs∈items,vs.length=ps.length) (hps:∀ t∈ps,t<c.nt)
  (round:∀ l rc W fp k x vs,rc.tmps.size=c.nt->items[k]? = some vs->Φ k x->aD c.md c.w0 W->(∀ b∈fp,b∈c.md\/c.w0.heap.size<=b) ->
   Tr ⟨W,fp,c.nt⟩ [] (mq (ps.zip vs) sl) (bC l (gy rc .ready none)::A x) (WP P (some l) D7 (Exit.then (Ee P l body (pB fp W (qg l rc Φ A Ψ B pd (k+1)))) (fun _ _ _=>False))))
  (kn:∀ x D,Φ items.length x->Tr c D sl (A x++own++rst) (Q .normal))
  (kj:∀ y D,Ψ y->Tr c D sl (B y++own++rst) (WP P none (pd y) Q)) :
  Tr c D sl hs (WP P none (.rangeFunc g ps.toArray D7 body) Q):=by
 refine zt (ι:=ι ⊕ κ) hg (As:=fun l rc=>bC l (gy rc .ready none)::(A x0++own)) (rest:=rst)
  (Φ:=fun l rc x=>match x with | .inl x=>Φ items.length x | .inr y=>Ψ y) (own:=fun l rc x=>match x with | .inl x=>A x++own | .inr y=>B y++own)
  (st:=fun x=>match x with | .inl _=>.ready | .inr _=>.done) (pd:=fun x=>match x with | .inl _=>none | .inr y=>some (pd y)) ?_ ?_ ?_ ?_ ?_
 ·exact fun l rc=>bn.cons .here ht
 ·rintro (x | y) <;> simp
 ·intro l rc Ra ha SM rf hsz w fp hm hn hs1 CD;have XX:∀ b∈fp,b∈c.md\/c.w0.heap.size<=b:=fun b hb=>(CD b hb).symm
  have hs2:ch (hp w) (NW (Φ 0) (fun x=>bC l (gy rc .ready none)::A x)::own) fp:=by
   rw [<- Zb] at hs1;obtain ⟨f1,f2,rfl,h1,h2⟩:=ch.append_iff.1 hs1;exact ⟨f1,f2,I,⟨x0,h0,h1⟩,h2⟩
  refine (hit w hm.wo l fp (fun k=>NW (Φ k) (fun x=>bC l (gy rc .ready none)::A x)) (NW Ψ (fun y=>bC l (gy rc .done (some (pd y)))::B y)) hm.keeps XX hn hs2 ?_).mono ?_
  ·intro k vs hk;refine CH (post:=qg l rc Φ A Ψ B pd (k+1)) rf hsz (by rw [Ra];simpa using hlen vs (List.mem_of_getElem? hk)) (by rw [Ra];simpa using hps) ?_;intro x W UW hB hF hx;have:=round l rc W UW k x vs hsz hk hx hB hF;rw [ha,SM,Ra];simpa using this
  ·rintro e w' ⟨b,he,_,hk,lN,tK,hs',yS⟩;obtain ⟨f1,f2,rfl,h1,h2⟩:=hs';cases b with
   | true =>
    obtain ⟨x,hx,h1⟩:=h1;exact ⟨.inl x,he,hx,hk,f1++f2,tK,by
     show ch _ (bC l (gy rc .ready none)::(A x++own)) _;rw [<- Zb];exact ch.append_iff.2 ⟨f1,f2,I,h1,h2⟩,yS⟩
   | false =>
    obtain ⟨y,hy,h1⟩:=h1;exact ⟨.inr y,he,hy,hk,f1++f2,tK,by
     show ch _ (bC l (gy rc .done (some (pd y)))::(B y++own)) _;rw [<- Zb];exact ch.append_iff.2 ⟨f1,f2,I,h1,h2⟩,yS⟩
 ·rintro l rc (x | y) b hx Rb
  ·exact kn x (b::D) hx
  ·simp at Rb
 ·rintro l rc (x | y) b j hx Rb
  ·simp at Rb
  ·simp only [Option.some.injEq] at Rb;subst Rb;exact kj y (b::D) hx
def zh (c:Cx) (Φ:ι->Prop) (sI:ι->aI) (hI:ι->List a8) (μ:ι->Nat) (i:ι):Act->World->Prop:=fun a w=>∃ D j,Φ j/\μ j<μ i/\St c D (sI j) (hI j) a w
def wO (c:Cx) (Φ:ι->Prop) (sI:ι->aI) (hI:ι->List a8):Act->World->Prop:=fun a w=>∃ D i,Φ i/\St c D (sI i) (hI i) a w
theorem En {x:Code} (Φ:ι->Prop) (sI:ι->aI) (hI:ι->List a8) (μ:ι->Nat)
  (h0:Tr c D sl hs (wO c Φ sI hI))
  (round:∀ i,Φ i->∀ D,Tr c D (sI i) (hI i) (WP P r x (Exit.then (zh c Φ sI hI μ i) Q))) :
  Tr c D sl hs (WP P r (.loop x) Q):=fun a w a7=>by
 let fits:Act->World->Nat->Prop:=fun a w n=>∃ D i,Φ i/\μ i=n/\St c D (sI i) (hI i) a w
 have least:∀ a w,(∃ n,fits a w n)->∃ n,fits a w n/\∀ m,fits a w m->n<=m:=by
  intro a w ⟨n,hn⟩
  induction n using Nat.strongRecOn with
  | _ n ih =>
   by_cases h:∃ m,m<n/\fits a w m
   ·obtain ⟨m,hm,hf⟩:=h;exact ih m hm hf
   ·exact ⟨n,hn,fun m hm=>Nat.le_of_not_lt fun aL=>h ⟨m,aL,hm⟩⟩
 let M:Act->World->Nat:=fun a w=>Classical.epsilon fun n=>fits a w n/\∀ m,fits a w m->n<=m
 have hM:∀ a w,(∃ n,fits a w n)->fits a w (M a w)/\∀ m,fits a w m->M a w<=m:=fun a w h=>Classical.epsilon_spec (least a w h)
 refine wpIn_loop (fun a w=>∃ n,fits a w n) M ?_ ?_
 ·obtain ⟨D,i,hi,hs⟩:=h0 a w a7;exact ⟨μ i,D,i,hi,I,hs⟩
 ·intro a w hI;obtain ⟨⟨D,i,hi,hm,hs⟩,_⟩:=hM a w hI;refine wpIn_mono (round i hi D a w hs) fun e a' w' h=>?_;cases e with
  | normal =>
   obtain ⟨D',j,hj,aL,hs'⟩:=h;have hf:fits a' w' (μ j):=⟨D',j,hj,I,hs'⟩;exact ⟨⟨_,hf⟩,Nat.lt_of_le_of_lt ((hM a' w' ⟨_,hf⟩).2 _ hf) (by rw [<- hm];exact aL)⟩
  | _=>exact h
theorem A3 {Φ:ι->Prop} {sI:ι->aI} {hI:ι->List a8} {μ:ι->Nat} {i:ι} (j:ι) {rest:List a8} (hΦ:Φ j) (hμ:μ j<μ i) (hs1:lF sl (sI j)) (ht:bn hs (hI j) rest):Tr c D sl hs (zh c Φ sI hI μ i):=
 fun a w a7=>⟨D,j,hΦ,hμ,a7.weaken hs1 ht⟩
theorem xU {Φ:ι->Prop} {sI:ι->aI} {hI:ι->List a8} (j:ι) {rest:List a8} (hΦ:Φ j) (hs1:lF sl (sI j)) (ht:bn hs (hI j) rest):Tr c D sl hs (wO c Φ sI hI):=
 fun a w a7=>⟨D,j,hΦ,a7.weaken hs1 ht⟩
theorem lT {nt:Nat} {W:World} {fp:List Nat} {l:Nat} {rc:Loop} {Φ:Nat->ι->Prop} {A:ι->List a8} {Ψ:κ->Prop} {B:κ->List a8} {pd:κ->Code} {k:Nat} {s:LoopState} {p:Option Code} (x:ι) {rst My:List a8}
  (ht:Take hs (bC l (gy rc s p)) rst) (hx:Φ k x) (h2:bn rst (A x) My):Tr ⟨W,fp,nt⟩ D sl hs (roundPost P l (pB fp W (qg l rc Φ A Ψ B pd k)) .normal):=
 FL (c:=⟨W,fp,nt⟩) (post:=qg l rc Φ A Ψ B pd k) x I ht hx (bn.cons .here h2)
theorem L5 {nt:Nat} {W:World} {fp:List Nat} {l:Nat} {rc:Loop} {Φ:Nat->ι->Prop} {A:ι->List a8} {Ψ:κ->Prop} {B:κ->List a8} {pd:κ->Code} {k:Nat} {s:LoopState} {p:Option Code} (y:κ) {rst My:List a8}
  (Rb:pd y=.ret) (ht:Take hs (bC l (gy rc s p)) rst) (hy:Ψ y) (h2:bn rst (B y) My):Tr ⟨W,fp,nt⟩ D sl hs (roundPost P l (pB fp W (qg l rc Φ A Ψ B pd k)) .ret):=by
 refine FK (c:=⟨W,fp,nt⟩) (post:=qg l rc Φ A Ψ B pd k) (Φ:=Ψ) (A:=fun y=>bC l (gy rc .done (some (pd y)))::B y) y (rest:=My) I ht hy ?_;rw [Rb];exact bn.cons .here h2
end
end Go.SL
namespace Go.SL
open Go
theorem uk {α:Type} {zs:List α} {n i:Nat} (h0:0<zs.length) (hi:i<n*zs.length):(List.replicate n zs).flatten[i]? = zs[i % zs.length]?:=by
 induction n generalizing i with
 | zero=>omega
 | succ n ih =>
  rw [List.replicate_succ,List.flatten_cons,List.getElem?_append];split
  ·rw [Nat.mod_eq_of_lt (by assumption)]
  ·rw [ih (by rw [Nat.succ_mul] at hi;omega),Nat.mod_eq_sub_mod (a:=i) (by omega)]
theorem vD {z:Array Value} {n:Nat} (h0:0<z.size):(madeCells z (n*z.size))=(List.replicate n z.toList).flatten.toArray:=by
 apply Array.ext';apply List.ext_getElem?;intro i;rw [Array.getElem?_toList];by_cases hi:i<n*z.size
 ·have:=uk (zs:=z.toList) (n:=n) (i:=i) (by simpa using h0) (by simpa using hi);rw [this];simp [madeCells,hi,Nat.mod_lt _ h0]
 ·rw [Array.getElem?_eq_none (by simp [size_madeCells];omega),List.getElem?_eq_none (by simp;omega)]
section
variable {P:Program} {c:Cx} {sl:aI} {hs:List a8} {dst:Option Tmp} {ty:TypeId} {pos:String} {af:Array Edge} {g:Option (Nat×Bool)}
theorem MC {t e:TypeId} {agg:Bool} {size bytes l cp:Nat} {z:Value} {x y:Operand} {kx ky:IntKind} [hu:iU P t (.slice e)] [hT:Ty P e agg size] [hZ:lQ P e z] [hB:wV P e bytes]
  (hx:Is sl x (.int kx l)) (hy:Is sl y (.int ky cp)) (hl:l<=cp) (hb:bytes*cp<=281474976710656) (hz:z.cells.size=size) (hsz:Nat.blt 0 size=true) (h63:cp<=9223372036854775807) :
  qp P c sl hs ⟨dst,.makeSlice t x y,ty,pos,af,g⟩ (fun b=>.slice (some ⟨b,0,none⟩) l cp) (.cells (List.replicate cp z.cells.toList).flatten.toArray e (0,0)):=
 ⟨by simp,fun a w ha _=>by
  obtain ⟨de,i,lM,hi,_,gG⟩:=Ty.parts (P:=P) (t:=e) (agg:=agg) (n:=size);have hzero:i.zero=some z:=by have:=hZ.eq;rw [hi] at this;simpa using this
  have gi:i.bytes=bytes:=by have:=hB.eq;rw [hi] at this;simpa using this
  have hs0:0<size:=by simpa [Nat.blt_eq] using hsz
  have:=run_make (P:=P) w t e i z hu.eq hi hzero kx ky l cp (by omega) (by omega) (by rw [gi];omega) (by omega);have e1:=vD (z:=z.cells) (n:=cp) (by omega);rw [hz] at e1;simp only [execOp,hx a ha,hy a ha];refine (by rw [Sem.run_bind,this];simp only [Int.toNat_natCast,gG,e1];rfl)⟩
end
end Go.SL
namespace Go.SL
open Go
def tq (n:Nat) (f:Nat->List Value):List Value:=((List.range n).map f).flatten
theorem ix {n sz:Nat} {f:Nat->List Value} (hf:∀ i,i<n->(f i).length=sz):(tq n f).length=n*sz:=by
 unfold tq
 induction n with
 | zero=>simp
 | succ n ih =>
  rw [List.range_succ,List.map_append,List.flatten_append,Zg,ih (fun i h=>hf i (by omega))]
  simp [hf n (by omega),Nat.succ_mul]
theorem zx {n sz i j:Nat} {f:Nat->List Value} (hf:∀ i,i<n->(f i).length=sz) (hi:i<n) (hj:j<sz):(tq n f)[i*sz+j]? = (f i)[j]?:=by
 have hl:=hf i hi;obtain ⟨u,hu⟩:∃ u,(f i)[j]? = some u:=⟨(f i)[j]'(by omega),Zc (by omega)⟩;rw [hu];exact pg _ i (fun r hr=>by obtain ⟨k,hk,rfl⟩:=List.mem_map.1 hr;exact hf k (List.mem_range.1 hk)) (by simp [hi]) hu
theorem mN {n:Nat} {f g:Nat->List Value} (h:∀ i,i<n->f i=g i):tq n f=tq n g:=by
 unfold tq;congr 1;exact List.map_congr_left fun i hi=>h i (List.mem_range.1 hi)
theorem iL:∀ (vs cs:List Value) (o k:Nat),o+vs.length<=cs.length->(setCells cs o vs)[k]? = if o<=k/\k<o+vs.length then vs[k-o]? else cs[k]?
 | [], cs, o, k, _ => by
  rw [if_neg (by simp only [List.length_nil];omega)];rfl
 | v :: vs, cs, o, k, h => by
  simp only [List.length_cons] at h ⊢;rw [setCells,iL vs _ (o+1) k (by simp;omega)];by_cases h1:o+1<=k/\k<o+1+vs.length
  ·rw [if_pos h1,if_pos (by omega),show k-o=(k-(o+1))+1 by omega,List.getElem?_cons_succ]
  ·rw [if_neg h1];by_cases h2:k=o
   ·subst h2;rw [if_pos (by omega),Nat.sub_self,List.getElem?_cons_zero,List.getElem?_set_self (by omega)]
   ·rw [if_neg (by omega),List.getElem?_set_ne (by omega)]
theorem FQ {n sz k:Nat} (h:k<n*sz):k / sz<n/\k % sz<sz/\k=k / sz*sz+k % sz:=by
 have hs:0<sz:=by
  rcases Nat.eq_zero_or_pos sz with h0 | h0
  ·subst h0;simp at h
  ·exact h0
 refine ⟨Nat.div_lt_of_lt_mul (by rwa [Nat.mul_comm]),Nat.mod_lt _ hs,?_⟩;have:=Nat.div_add_mod k sz;rw [Nat.mul_comm] at this;exact this.symm
theorem Mg {n sz i o:Nat} {f:Nat->List Value} {vs:List Value} (hf:∀ i,i<n->(f i).length=sz) (hi:i<n) (ho:o+vs.length<=sz) :
  setCells (tq n f) (i*sz+o) vs=tq n (fun k=>if k=i then setCells (f i) o vs else f k):=by
 have hm:(i+1)*sz<=n*sz:=Nat.mul_le_mul_right _ hi;rw [Nat.succ_mul] at hm;have hg:∀ k,k<n->((fun k=>if k=i then setCells (f i) o vs else f k) k).length=sz:=fun k hk=>by
  show (if k=i then _ else _:List Value).length=sz
  split
  ·rw [kC,hf i hi]
  ·exact hf k hk
 have Rl:=ix hf;have E2:=ix hg;apply List.ext_getElem?;intro k;rw [iL _ _ _ _ (by rw [Rl];omega)];by_cases hk:k<n*sz
 ·obtain ⟨h1,h2,h3⟩:=FQ hk;rw [h3,zx hg h1 h2,zx hf h1 h2];by_cases e:k / sz=i
  ·rw [e];simp only [if_true];rw [iL _ _ _ _ (by rw [hf i hi];omega)];by_cases h4:o<=k % sz/\k % sz<o+vs.length
   ·rw [if_pos h4,if_pos (by omega),show i*sz+k % sz-(i*sz+o)=k % sz-o by omega]
   ·rw [if_neg h4,if_neg (by omega)]
  ·rw [if_neg]
   ·simp only [if_neg e]
   ·intro ⟨h4,h5⟩;rcases Nat.lt_or_gt_of_ne e with e | e
    ·have:(k / sz+1)*sz<=i*sz:=Nat.mul_le_mul_right _ e;rw [Nat.succ_mul] at this;omega
    ·have:(i+1)*sz<=k / sz*sz:=Nat.mul_le_mul_right _ e;rw [Nat.succ_mul] at this;omega
 ·rw [if_neg (by omega),List.getElem?_eq_none (by omega),List.getElem?_eq_none (by omega)]
theorem CT (n:Nat) (f:Nat->List Value):tq n f=((List.range n).map f).flatten:=rfl
theorem At.lP {c:Cx} {hs hs':List a8} {b o:Nat} {cs:List Value} {E:TypeId} {fz:Nat×Nat} {v:Value} (ht:Take hs (SL.bC b (.cells cs.toArray E fz)) hs') (hv:cs[o]? = some v):At c hs b o v:=
 At.bC ht (by simpa using hv)
section
variable {P:Program} {c:Cx} {sl:aI} {hs hs':List a8}
theorem sY {fn:Func} {t u:Tmp} {T:TypeId} {b o n:Nat} {cs vs:List Value} {E:TypeId} {fz:Nat×Nat} {y:Value} (h:fn.results=#[.cell t T,.tmp u]) (hT:Ty P T true n) (hp:cJ sl t=some (.pointer (some ⟨b,o,none⟩))) (ht:Take hs (SL.bC b (.cells cs.toArray E fz)) hs') (hv:eu cs o n=vs) (hl:vs.length=n) (hy:cJ sl u=some y):Ends P fn c sl hs (.tuple #[.agg vs.toArray,y]):=
 PA (xs:=[.cell t T,.tmp u]) (vs:=[.agg vs.toArray,y]) h (G4.cons (RV.cell hp (IJ (eU.bC ht hv) hl)) (G4.cons (RV.tmp hy) G4.nil)) (by simp)
variable {dst:Option Tmp} {ty:TypeId} {pos:String} {af:Array Edge} {g:Option (Nat×Bool)}
theorem bu {t e:TypeId} {agg:Bool} {n size:Nat} {z:Value} {xs:List (Nat×Operand)} {ps:List (Nat×Value)} {zs cs:List Value} {places:List (Nat×Nat)} [hu:iU P t (.slice e)] [hT:Ty P e agg size] [hZ:lQ P e z] (hp:wN sl xs ps)
  (hn:Nat.ble (n*size) 1000=true) (Xk:Nat.blt 0 (n*size)=true) (vO:(List.range n).map (fun i=>(i*size,size))=places) (hzs:(List.range (n*size)).map (fun i=>z.cells[i % z.cells.size]!)=zs) (hf:tU places zs ps=some cs) :
  qp P c sl hs ⟨dst,.buildSlice t n xs.toArray,ty,pos,af,g⟩ (fun b=>.slice (some ⟨b,0,none⟩) n n) (.cells cs.toArray e):=
 mo (ps:=ps.toArray) (fun a ha=>by have:=hp.map ha;rw [List.map_toArray,this]) (fun w=>by
  have tK:n*size<=1000:=by simpa using hn
  have nQ:0<n*size:=by simpa [Nat.blt_eq] using Xk
  unfold Instr.buildSlice;simp only [Sem.run_bind,aU hu.eq,Result.andThen_ok,gr (t:=e) (agg:=agg) (n:=size)];rw [if_neg (by omega),if_neg (by omega)];simp only [Sem.run_bind,iM (t:=e) (v:=z),Result.andThen_ok,Sem.run_pure];have h1:(Array.range (n*size)).map (fun i=>z.cells[i % z.cells.size]!)=zs.toArray:=by
   rw [<- hzs];apply Array.ext';simp
  have h2:=fill_eq (places:=places) (f:=fun i=>if i<n then some (i*size,size) else none) (fun i x hx=>by
   subst vO;simp only [List.getElem?_map,Option.map_eq_some_iff] at hx;obtain ⟨k,hk,rfl⟩:=hx;obtain ⟨aL,hk⟩:=List.getElem?_eq_some_iff.1 hk;simp only [List.getElem_range] at hk;subst hk;simp only [List.length_range] at aL;simp [aL]) ps zs cs hf
  have h3:Instr.fill (fun i=>some (i*size,size)) zs.toArray ps=some cs.toArray:=by
   have key:∀ (l:List (Nat×Value)) (cc:Array Value) (r:Array Value),Instr.fill (fun i=>if i<n then some (i*size,size) else none) cc l=some r->Instr.fill (fun i=>some (i*size,size)) cc l=some r:=by
    intro l
    induction l with
    | nil=>intro cc r h;exact h
    | cons x l ih =>
     obtain ⟨i,v⟩:=x;intro cc r h;simp only [Instr.fill] at h ⊢;by_cases hi:i<n
     ·rw [if_pos hi] at h;simp only at h;split at h
      ·cases h
      ·rename_i hc;rw [if_neg hc];exact ih _ _ h
     ·rw [if_neg hi] at h;cases h
   exact key ps zs.toArray cs.toArray h2
  rw [h1,h3];simp [newRow])
theorem aW {D:List Nat} {X:Act->World->Prop} {E:TypeId} {sz n:Nat} {v:Value} {xs:List Value} (ht:Take hs (row E sz v n xs) hs') (k:∀ a cap,v=.slice a n cap->Tr c D sl hs X):Tr c D sl hs X:=fun a w a7=>by
 obtain ⟨_,fp,_,⟨f1,f2,_,h1,_⟩,_⟩:=a7.qP.take ht;obtain ⟨_,_,⟨rfl,rfl⟩ | ⟨g,cap,cur,rfl,_⟩⟩:=h1
 ·exact k _ _ I a w a7
 ·exact k _ _ I a w a7
end
end Go.SL
namespace Go.SL
open Go
def NP (Q:Exit->Act->World->Prop):Exit->Act->World->Prop
 | .panic _=>fun _ _=>False
 | e=>Q e
theorem Oper.uX {F:Fence} {n:Nat} {P:Program} {o:Oper} {a:Act} {w:World} {K K':Act->World->Prop} {Q Q':Exit->Act->World->Prop} (h:∀ a w,K a w->K' a w) (hq:∀ c a w,Q (.panic c) a w->Q' (.panic c) a w) (hl:LetsOut Q->LetsOut Q')
  (hh:o.wpIn F n P a w K Q):o.wpIn F n P a w K' Q':=by
 unfold Oper.wpIn at *;refine ⟨hh.1,?_⟩;have hh:=hh.2;generalize (o.semAt F.round a.eval).run P w=r at *;cases r with
 | ok x w' =>
  cases x <;> simp only [Oper.uponIn] at hh ⊢ <;>
   first
    | exact h _ _ hh
    | exact ⟨hh.1,CallsIn.mono hh.2 (fun e uZ he=>by cases e <;> first | exact h _ _ he | exact hq _ _ _ he | exact hl he | exact he)⟩
    | exact ⟨hh.1,RowsIn.mono hh.2 (fun _ _ he=>h _ _ he)⟩
    | exact ⟨hh.1,RoundIn.mono hh.2 (fun e uZ he=>by cases e <;> first | exact h _ _ he | exact hq _ _ _ he | exact hl he | exact he)⟩
 | halt x w'=>cases x <;> simp only [Oper.uponIn] at hh ⊢ <;> first | exact hh | exact hq _ _ _ hh
section
variable {P:Program} {r:Option Nat} {c:Cx} {D:List Nat} {sl:aI} {hs hs':List a8} {Q:Exit->Act->World->Prop} {ops:Array Oper} {fuel i:Nat} {listed:Array Bool}
def Left (P:Program) (ops:Array Oper) (Q:Exit->Act->World->Prop) (fuel:Nat) (listed:Array Bool):Act->World->Prop:=wpAnyIn (FR none) 0 P .any ops (NP Q) fuel listed
theorem L8 {id:Nat} {l:List Oper} (n:Nat) [pf:PO P] (hn:l.length=n) (k:Tr c D sl hs (Left P l.toArray Q n (Array.replicate n false))):Tr c D sl hs (WP P none (.region id l.toArray true) Q):=fun a w a7=>by
 subst hn;have h:(Code.region id l.toArray true).wpIn (FR none) 0 P (NP Q) a w:=wpIn_region_any pf.eq (by
  have:=k a w.drew (a7.heap a7.mem.drew);simpa [Left] using this)
 exact wpIn_mono h fun e a' w' h=>by
  cases e with
  | panic c=>exact h.elim
  | _=>exact h
theorem eW (i:Nat) {d:Nat} {op:Op} {ty:TypeId} {pos:String} {af:Array Edge} {V:Value} (hi:ops[i]? = some ⟨some d,op,ty,pos,af,none⟩) (hs1:Region.noSelect ops=true) (hf:Region.free .any ops listed i=true) (hr:(Region.ready .any ops listed).contains i=true)
  (SO:∀ (w:World) (ρ:Operand->Value),Oper.about P w ρ ⟨some d,op,ty,pos,af,none⟩=none) (hv:∀ w,cQ P ⟨w,[],0⟩ sl [] ⟨some d,op,ty,pos,af,none⟩ V) (hd:Nat.blt d c.nt=true)
  (k:Tr c D ((d,V)::sl) hs (Left P ops Q fuel (listed.setIfInBounds i true))):Tr c D sl hs (Left P ops Q (fuel+1) listed):=fun a w a7=>by
 refine wpAnyIn_take (oi:=⟨some d,op,ty,pos,af,none⟩) I hi hs1 hf hr (fun c a w h=>h) (v:=V) ⟨.inl ⟨by simp [Region.wanted],fun w'=>?_⟩,fun w'=>SO w' _⟩ (k _ _ (a7.put (by simpa [Nat.blt_eq] using hd) V));exact (hv w').2 a w' a7.cP ⟨.refl _ _,[],List.nodup_nil,I,by simp⟩
def Next (P:Program) (c:Cx) (D:List Nat) (sl:aI) (hs:List a8) (ops:Array Oper) (Q:Exit->Act->World->Prop) (fuel:Nat) (listed:Array Bool) (i:Nat):Prop:=
 ∀ a w,St c D sl hs a w->wpOpIn (FR none) 0 P ops (NP Q) i (Left P ops Q fuel (listed.setIfInBounds i true)) a w
theorem cU {rs:List Nat} (hr:Region.ready .any ops listed=rs) (hne:rs≠[]) (h:∀ i∈rs,Next P c D sl hs ops Q fuel listed i):Tr c D sl hs (Left P ops Q (fuel+1) listed):=fun a w a7=>
 wpAnyIn_all hr hne fun i hi=>h i hi a w a7
theorem dj {d:Option Tmp} {op:Op} {ty:TypeId} {pos:String} {af:Array Edge} {g:Option (Nat×Bool)} (hi:ops[i]? = some ⟨d,op,ty,pos,af,g⟩) (h:Tr c D sl hs (WL P none ops (Exit.then (Left P ops Q fuel (listed.setIfInBounds i true)) (NP Q)) [⟨d,op,ty,pos,af,g⟩])):Next P c D sl hs ops Q fuel listed i:=fun a w a7=>by
 have h1:=h a w a7;unfold wpOpIn;simp only [hi];unfold WL at h1;split
 ·rename_i hw;rw [if_pos hw] at h1;exact Oper.uX (fun a w h=>h) (fun c a w h=>h) (fun h=>h) h1
 ·rename_i hw;rw [if_neg hw] at h1;exact ⟨fun _ _=>trivial,h1⟩
theorem dp (hr:Region.ready .any ops listed=[]) (k:Tr c D sl hs (Q .normal)):Tr c D sl hs (Left P ops Q fuel listed):=fun a w a7=>
 wpAnyIn_done (Q:=NP Q) hr (k a w a7) fuel
theorem Hr {x:Code} (h:Tr c D sl hs (WP P none x (Exit.noGoto Q))):Tr c D sl hs (WP P none (.scope x) Q):=fun a w a7=>
 (wpIn_wide (n:=0)).2 (wp_scope_straight ((wpIn_wide (n:=0)).1 (h a w a7)))
theorem sx (h:Tr c D sl hs (Q .ret)):Tr c D sl hs (Exit.noGoto Q .ret):=h
theorem Hu {l:Nat} {r:Option Nat} (h:Tr c D sl hs (Q .normal)):Tr c D sl hs (WP P r (.label l) Q):=fun a w a7=>wpIn_label (h a w a7)
variable {dst:Option Tmp} {ty:TypeId} {pos:String} {af:Array Edge} {g:Option (Nat×Bool)}
theorem gW {t u e:TypeId} {x y:Operand} {a:Option Addr} {n cp n' SX:Nat} [hu:iU P t (.slice e)] (hx:Is sl x (.slice a n cp)) (hy:Is sl y (.slice none n' SX)):cQ P c sl hs ⟨dst,.binOp .eql t x y u,ty,pos,af,g⟩ (.bool a.isNone):=
 iW hx hy fun w=>by
  have h1:(eqGuard .eql t x y (.slice a n cp) (.slice none n' SX)).run P w=.ok () w:=by simp [eqGuard]
  rw [Sem.run_bind,h1,Result.andThen_ok];exact Go.Lib.run_eql_slice_nil w t e a n cp n' SX hu.eq
end
end Go.SL
namespace Go.SL
open Go
class BP (b:Bool) (p q:outParam Prop):Prop where
 t:b=true->p
 f:b=false->q
instance (priority:=low) {b:Bool}:BP b (b=true) (b=false):=⟨id,id⟩
instance {p:Prop} {inst:Decidable p}:BP (@decide p inst) p (¬ p):=⟨of_decide_eq_true,of_decide_eq_false⟩
instance {a:Bool} {p q:Prop} [h:BP a p q]:BP (!a) q p:=⟨fun e=>h.f (by simpa using e),fun e=>h.t (by simpa using e)⟩
instance {a b:Bool} {p q p' q':Prop} [h:BP a p q] [h':BP b p' q']:BP (a||b) (p\/p') (q/\q'):=
 ⟨fun e=>(Bool.or_eq_true _ _ ▸ e).elim (fun e=>.inl (h.t e)) (fun e=>.inr (h'.t e)),fun e=>by
  rw [Bool.or_eq_false_iff] at e;exact ⟨h.f e.1,h'.f e.2⟩⟩
instance {a b:Bool} {p q p' q':Prop} [h:BP a p q] [h':BP b p' q']:BP (a&&b) (p/\p') (q\/q'):=
 ⟨fun e=>by
  rw [Bool.and_eq_true] at e;exact ⟨h.t e.1,h'.t e.2⟩,fun e=>(Bool.and_eq_false_iff.1 e).elim (fun e=>.inl (h.f e)) (fun e=>.inr (h'.f e))⟩
instance {a:Bool} {p q:Prop} [h:BP a p q]:BP (a==true) p q:=⟨fun e=>h.t (by simpa using e),fun e=>h.f (by simpa using e)⟩
instance {a:Bool} {p q:Prop} [h:BP a p q]:BP (a==false) q p:=⟨fun e=>h.f (by simpa using e),fun e=>h.t (by simpa using e)⟩
theorem gO:∀ u∈([]:List Value),u.oneCell'=true:=fun _ h=>absurd h List.not_mem_nil
theorem bJ {v:Value} {vs:List Value} (h:v.oneCell'=true) (t:∀ u∈vs,u.oneCell'=true):∀ u∈v::vs,u.oneCell'=true:=List.forall_mem_cons.2 ⟨h,t⟩
theorem QO {n:Int} (h:-9223372036854775808<=n/\n<=9223372036854775807):Vs n:=h
theorem bF {a b:Nat} (h:Nat.ble a b=true):a<=b:=Nat.le_of_ble_eq_true h
theorem an {α:Type} {a b:α} (h:a=b:=by (first | (simp only [Int.toNat_zero,Int.toNat_one,Int.reduceToNat,tU,setCells,eu,partOf,Value.cells,uf,cond_true,cond_false,List.getElem?_cons_zero,List.getElem?_cons_succ,List.set_cons_zero,List.set_cons_succ,List.size_toArray,List.length_cons,List.length_nil,Nat.reduceAdd,Nat.reduceMul,Nat.reduceLeDiff,and_self,and_true,true_and,if_true,List.set,List.length_set,Nat.le_refl,Nat.zero_add,Nat.add_zero];exact I) | exact I)):a=b:=h
theorem ae {α:Type} {a b:α} (h:a=b:=by (first | (simp only [Nat.reduceAdd,Nat.zero_add,Nat.add_zero];exact I) | exact I)):a=b:=h
theorem ba {α:Type} {a b:α} (h:a=b:=by (first | (simp only [Int.toNat_natCast,Nat.zero_add,Int.reduceToNat,Int.toNat_zero,Int.toNat_one];exact I) | exact I)):a=b:=h
theorem fL {α:Type} {a b:α} (h:a=b:=by first | ((try simp only [Za,List.append_nil,Zb]);exact I) | exact I):a=b:=h
theorem bW {α:Type} {a b:α} (h:a=b:=by first | (simp only [List.range,List.range.loop,List.map,Nat.reduceMul];exact I) | exact I):a=b:=h
theorem eV {a b:Nat} (h:a<=b:=by first | omega | (simp only [Zg,List.length_cons,List.length_nil];omega)):a<=b:=h
theorem mD {α:Type} {a b:α} (h:a=b:=by kernel_rfl):a=b:=h
section
variable {P:Program} {r:Option Nat} {c:Cx} {D:List Nat} {sl:aI} {rl:eT} {hs hs':List a8} {Q:Exit->Act->World->Prop} {ops:Array Oper} {m d:Nat} {dst:Option Tmp} {op:Op} {ty:TypeId} {pos:String} {af:Array Edge} {rest:List Oper}
theorem A4 {t:TypeId} (hd:Nat.blt d c.nt=true) (k:∀ b,c.w0.heap.size<=b->Tr c D ((d,.map (some b))::sl) (mp (fun s:ByteArray=>Value.string s) b []::hs) (WL P r ops Q rest)) :
  Tr c D sl hs (WL P r ops Q (⟨some d,.makeMap t none,ty,pos,af,none⟩::rest)):=CM (fun s:ByteArray=>Value.string s) hd k
theorem cR {j g:Nat} {want q:Bool} (hj:((ops[j]?).bind (·.dst))=some g) (hq:cJ sl g=some (.bool q)) (hn:(q==want)=false) (hd:Nat.blt d c.nt=true) (k:Tr c D ((d,gv (q==want) (.bool false))::sl) hs (WL P r ops Q rest)) :
  Tr c D sl hs (WL P r ops Q (⟨some d,op,ty,pos,af,some (j,want)⟩::rest)):=u0 hj hq (fun e=>absurd (hn.symm.trans e) (by decide)) hd k
theorem Hx {x:Operand} {b:Bool} {p q:Prop} {u v:Code} (hx:Is sl x (.bool b)) (hb:BP b p q)
  (ht:p->Tr c D sl hs (WP P r u Q)) (hf:q->Tr c D sl hs (WP P r v Q)):Tr c D sl hs (WP P r (.cond x u v) Q):=
 Eo hx (fun e=>ht (hb.t e)) (fun e=>hf (hb.f e))
theorem ek {V:Value} {p p':Prop} {j g:Nat} {want c0 q:Bool} (hj:((ops[j]?).bind (·.dst))=some g) (hq:cJ sl g=some (gv c0 (.bool q))) (hb:BP (c0&&(q==want)) p p')
  (hr:(c0&&(q==want))=true->p->cQ P c sl hs ⟨some d,op,ty,pos,af,some (j,want)⟩ V) (hd:Nat.blt d c.nt=true) (k:Tr c D ((d,gv (c0&&(q==want)) V)::sl) hs (WL P r ops Q rest)) :
  Tr c D sl hs (WL P r ops Q (⟨some d,op,ty,pos,af,some (j,want)⟩::rest)):=El hj hq (fun e=>hr e (hb.t e)) hd k
theorem aC {V:Value} {p p':Prop} {j g:Nat} {want q:Bool} (hj:((ops[j]?).bind (·.dst))=some g) (hq:cJ sl g=some (.bool q)) (hb:BP (q==want) p p')
  (hr:(q==want)=true->p->cQ P c sl hs ⟨some d,op,ty,pos,af,some (j,want)⟩ V) (hd:Nat.blt d c.nt=true) (k:Tr c D ((d,gv (q==want) V)::sl) hs (WL P r ops Q rest)) :
  Tr c D sl hs (WL P r ops Q (⟨some d,op,ty,pos,af,some (j,want)⟩::rest)):=u0 hj hq (fun e=>hr e (hb.t e)) hd k
theorem q7 {V:Value} {p p':Prop} {j gs:Nat} {want c0 q:Bool} (hj:((ops[j]?).bind (·.dst))=some gs) (hq:cJ sl gs=some (gv c0 (.bool q))) (hb:BP (c0&&(q==want)) p p')
  (hr:(c0&&(q==want))=true->p->cQ P c sl hs ⟨some d,op,ty,pos,af,some (j,want)⟩ V) (hd:Nat.blt d c.nt=true) (k:k6 P r c D hs ops Q m rest ((d,gv (c0&&(q==want)) V)::sl) rl) :
  k6 P r c D hs ops Q (m+1) (⟨some d,op,ty,pos,af,some (j,want)⟩::rest) sl rl:=Co hj hq (fun e=>hr e (hb.t e)) hd k
theorem dR {V:Value} {p p':Prop} {j gs:Nat} {want q:Bool} (hj:((ops[j]?).bind (·.dst))=some gs) (hq:cJ sl gs=some (.bool q)) (hb:BP (q==want) p p')
  (hr:(q==want)=true->p->cQ P c sl hs ⟨some d,op,ty,pos,af,some (j,want)⟩ V) (hd:Nat.blt d c.nt=true) (k:k6 P r c D hs ops Q m rest ((d,gv (q==want) V)::sl) rl) :
  k6 P r c D hs ops Q (m+1) (⟨some d,op,ty,pos,af,some (j,want)⟩::rest) sl rl:=GO hj hq (fun e=>hr e (hb.t e)) hd k
end
theorem Fj {P:Program} {c:Cx} {sl:aI} {hs:List a8} {fn:Func} {t:Tmp} {T:TypeId} {b o n:Nat} {v:Value} (h:fn.results=#[.cell t T]) (hT:Ty P T false n) (hp:cJ sl t=some (.pointer (some ⟨b,o,none⟩))) (hv:At c hs b o v):Ends P fn c sl hs v:=RX h hp hv
section
variable {P:Program} {r:Option Nat} {c:Cx} {D:List Nat} {sl:aI} {rl:eT} {hs hs':List a8} {Q:Exit->Act->World->Prop} {ops:Array Oper} {m d:Nat} {op:Op} {ty:TypeId} {pos:String} {af:Array Edge} {rest:List Oper}
theorem s_r {id:Nat} {l:List Oper} {y:Code} (h:Tr c D sl hs (WL P r l.toArray (Exit.then (WP P r y Q) Q) l)):Tr c D sl hs (WP P r (.seq (.region id l.toArray false) y) Q):=qG (mJ h)
theorem n_t {N:Act->World->Prop} (h:Tr c D sl hs N):Tr c D sl hs (WL P r ops (Exit.then N Q) []):=h
theorem n_r {id:Nat} {l:List Oper} {y:Code} {Q':Exit->Act->World->Prop} (h:Tr c D sl hs (WL P r l.toArray (Exit.then (WP P r y Q) Q) l)):Tr c D sl hs (WL P r ops (Exit.then (WP P r (.seq (.region id l.toArray false) y) Q) Q') []):=qG (mJ h)
theorem s_t {N:Act->World->Prop} (h:Tr c D sl hs N):Tr c D sl hs (WP P r .skip (Exit.then N Q)):=Em h
theorem x_t {N:Act->World->Prop} {id:Nat} (h:Tr c D sl hs (Q (.exit id))):Tr c D sl hs (WP P r (.exit id) (Exit.then N Q)):=Ma h
theorem r_t {N:Act->World->Prop} (h:Tr c D sl hs (Q .ret)):Tr c D sl hs (WP P r .ret (Exit.then N Q)):=Hs h
theorem OU {x:Operand} {v:Value} (hx:ev sl x=some v) (hd:Nat.blt d c.nt=true) (k:Tr c D ((d,v)::sl) hs (WL P r ops Q rest)):Tr c D sl hs (WL P r ops Q (⟨some d,.move x,ty,pos,af,none⟩::rest)):=ab (aZ (.of hx)) hd k
theorem YN {x:Operand} {v:Value} (hx:ev sl x=some v) (hd:Nat.blt d c.nt=true) (k:Tr c D ((d,v)::sl) hs (WL P r ops Q rest)):Tr c D sl hs (WL P r ops Q (⟨some d,.assign x,ty,pos,af,none⟩::rest)):=ab (cF (.of hx)) hd k
theorem iv {x:Operand} {v:Value} (hx:ev sl x=some v) (hd:Nat.blt d c.nt=true) (k:k6 P r c D hs ops Q m rest ((d,v)::sl) rl):k6 P r c D hs ops Q (m+1) (⟨some d,.move x,ty,pos,af,none⟩::rest) sl rl:=aA (aZ (.of hx)) hd k
theorem bK {t:TypeId} {i o:Nat} {x:Operand} {b k q:Nat} [eH P t i o] (hx:ev sl x=some (.pointer (some ⟨b,k,none⟩))) (hd:Nat.blt d c.nt=true) (he:k+o=q) (h:Tr c D ((d,.pointer (some ⟨b,q,none⟩))::sl) hs (WL P r ops Q rest)) :
  Tr c D sl hs (WL P r ops Q (⟨some d,.fieldAddr t x i,ty,pos,af,none⟩::rest)):=ab (ao (.of hx) he) hd h
theorem mG {t:TypeId} {i o:Nat} {x:Operand} {b k q:Nat} [eH P t i o] (hx:ev sl x=some (.pointer (some ⟨b,k,none⟩))) (hd:Nat.blt d c.nt=true) (he:k+o=q) (h:k6 P r c D hs ops Q m rest ((d,.pointer (some ⟨b,q,none⟩))::sl) rl) :
  k6 P r c D hs ops Q (m+1) (⟨some d,.fieldAddr t x i,ty,pos,af,none⟩::rest) sl rl:=aA (ao (.of hx) he) hd h
theorem fM {x:Operand} {v:Value} {j g:Nat} {want q:Bool} (hj:((ops[j]?).bind (·.dst))=some g) (hq:cJ sl g=some (.bool q)) (hx:ev sl x=some v) (hd:Nat.blt d c.nt=true) (k:Tr c D ((d,gv (q==want) v)::sl) hs (WL P r ops Q rest)) :
  Tr c D sl hs (WL P r ops Q (⟨some d,.move x,ty,pos,af,some (j,want)⟩::rest)):=u0 hj hq (fun _=>aZ (.of hx)) hd k
theorem gl {x:Operand} {p:Prop} {inst:Decidable p} {u v:Code} (hx:ev sl x=some (.bool (decide p))) (ht:p->Tr c D sl hs (WP P r u Q)) (hf:¬ p->Tr c D sl hs (WP P r v Q)):Tr c D sl hs (WP P r (.cond x u v) Q):=FN (.of hx) ht hf
theorem oz {x:Operand} {b:Bool} {p q:Prop} {u v:Code} (hx:ev sl x=some (.bool b)) [hb:BP b p q] (ht:p->Tr c D sl hs (WP P r u Q)) (hf:q->Tr c D sl hs (WP P r v Q)):Tr c D sl hs (WP P r (.cond x u v) Q):=Hx (.of hx) hb ht hf
end
end Go.SL
