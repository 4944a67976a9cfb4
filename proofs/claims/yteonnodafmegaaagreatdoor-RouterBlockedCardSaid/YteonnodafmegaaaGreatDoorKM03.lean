/- Parts of the proof: GkRow GkLoop GkRange GkSlice K1Ty GkSeq GkMake GkTab GkAnyL GkFin. -/
import Derived.Test.YteonnodafmegaaaGreatDoorKM02
import Derived.Laws.AppendOwn
import Derived.Laws.RangeAny
import Derived.Laws.Slices
import Derived.Test.YteonnodafmegaaaGreatDoorProg
import Derived.Laws.MakeOwn
import Derived.Scope
import Derived.Lib.SliceRun
set_option linter.unusedSectionVars false
set_option linter.unusedVariables false
set_option linter.unusedSimpArgs false
namespace Go.SL
open Go
def Rd (w:World) (v:Value) (sz:Nat) (xs:List (List Value)):Prop:=
 ∃ a cap b o,v=.slice a xs.length cap/\xs.length<=cap/\cap<=maxLen/\(xs≠[]->a=some ⟨b,o,none⟩)/\∀ i r,xs[i]? = some r->r.length=sz/\∀ j u,r[j]? = some u->w.cell? ⟨b,o+i*sz+j,none⟩=some u
variable {X:Act->World->Prop} {fp:List Nat} {n sz:Nat} {v:Value} {w:World} {xs:List (List Value)}
theorem Rd.keeps {w w':World} (h:Rd w v sz xs) (hk:aH [] w w'):Rd w' v sz xs:=by
 obtain ⟨a,cap,b,o,h1,h2,Hb,h3,h4⟩:=h;refine ⟨a,cap,b,o,h1,h2,Hb,h3,fun i r hr=>⟨(h4 i r hr).1,fun j u hu=>?_⟩⟩;have:=(h4 i r hr).2 j u hu;have hb:=World.block_lt_of_cell? w _ this;rw [<- this];simp only [World.cell?];rw [hk.block b hb (by simp)]
theorem Rd.nil (w:World) (sz:Nat):Rd w (.z) sz []:=⟨none,0,0,0,I,ZC _,by unfold maxLen;omega,fun h=>absurd I h,fun i r h=>by simp at h⟩
theorem rd1 {b o i:Nat} {u:Value} (h:∀ i r,xs[i]? = some r->r.length=1/\∀ j u,r[j]? = some u->w.cell? ⟨b,o+i*1+j,none⟩=some u) (hr:xs[i]? = some [u]):w.cell? ⟨b,o+i*1,none⟩=some u:=(h i _ hr).2 0 u I
theorem Mem.dB {c:Cx} {hs hs':List bh} (hm:Mem c hs w) {b:Nat} {cs:List Value} {E:TypeId} {fz:Nat×Nat} (ht:Take hs (SL.bA b (.cells cs.toArray E fz)) hs') {n:Nat} (hn:cs.length=n) (hle:Nat.ble n 1000=true):Rd w (.w b n n) 1 (cs.map fun v=>[v]):=by
 subst hn;have Og:cs.length<=1000:=by simpa using hle
 refine ⟨_,cs.length,b,0,by simp,by simp,by unfold maxLen;omega,fun _=>rfl,fun i r hr=>?_⟩;rw [ZJ,Zak] at hr;obtain ⟨v,hv,rfl⟩:=hr;refine ⟨I,fun j u hu=>?_⟩;cases j with
 | zero =>
  simp only [Zaz,Option.some.injEq] at hu;subst hu;rw [cell_of_block (hm.bA ht)];simpa using hv
 | succ j=>simp at hu
def row (E:TypeId) (sz:Nat) (v:Value) (n:Nat) (xs:List Value):bh where
 sat h fp:=fp=v.ownBlock.toList/\xs.length=n*sz/\((v=.z/\n=0) \/
  ∃ g cap cur,v=.w g n cap/\h g=some (.cells cur E (0,0))/\n<=cap/\cap<=maxLen/\cur.size=cap*sz/\cur.toList.take (n*sz)=xs)
 loc:=by
  rintro h h' fp ⟨e,hl,h1⟩ hb;refine ⟨e,hl,h1.imp id ?_⟩;rintro ⟨g,cap,cur,rfl,hg,r⟩;exact ⟨g,cap,cur,I,by rw [hb g (by rw [e];simp [Value.ownBlock])];exact hg,r⟩
 own:=by
  rintro h fp ⟨e,hl,h1⟩ b hb;rcases h1 with ⟨rfl,_⟩ | ⟨g,cap,cur,rfl,hg,_⟩
  ·rw [e] at hb;simp [Value.ownBlock] at hb
  ·rw [e] at hb;simp [Value.ownBlock] at hb;subst hb;exact ⟨_,hg⟩
theorem B1 {E:TypeId} {xs:List Value} (h:(row E sz v n xs).sat (hp w) fp):w.ownsRow 0 E sz v n xs:=by
 obtain ⟨_,hl,h1⟩:=h;exact ⟨hl,h1.imp id fun ⟨g,cap,cur,e,hg,r⟩=>⟨g,cap,cur,e,Zi _,hg,r⟩⟩
theorem lX {E:TypeId} {xs:List Value} (h:w.ownsRow 0 E sz v n xs):(row E sz v n xs).sat (hp w) v.ownBlock.toList:=by
 obtain ⟨hl,h1⟩:=h;exact ⟨I,hl,h1.imp id fun ⟨g,cap,cur,e,_,hg,r⟩=>⟨g,cap,cur,e,hg,r⟩⟩
theorem Mem.QO {c:Cx} {hs:List bh} (hm:Mem c hs w) (E:TypeId) (sz:Nat):Mem c (row E sz (.z) 0 []::hs) w:=
 Mem.change (As:=[]) (Bs:=[row E sz (.z) 0 []]) hm fun fp _ hf=>by
  rw [show fp=[] from hf];exact ⟨.refl _ _,[],Zah,⟨[],[],I,⟨I,by simp,.inl ⟨I,I⟩⟩,I⟩,by simp⟩
theorem aR {c:Cx} {D:List Nat} {sl:aD} {hs:List bh} (E:TypeId) (sz:Nat) (k:Tr c D sl (row E sz (.z) 0 []::hs) X):Tr c D sl hs X:=fun a w bj=>
 k a w (bj.heap (bj.mem.QO E sz))
theorem o5 {sz j:Nat} {r:List Value} {u:Value}:∀ (xs:List (List Value)) (i:Nat),(∀ r∈xs,r.length=sz)->xs[i]? = some r->r[j]? = some u->xs.flatten[i*sz+j]? = some u
 | [],i,_,hr,_=>by simp at hr
 | x :: xs, 0, hx, hr, hu => by
  simp at hr;subst hr;rw [ZaD,ZG (by rw [Zbn,ZE];exact (Zl.1 hu).1),Zbn,ZE];exact hu
 | x :: xs, i + 1, hx, hr, hu => by
  have Pz:=hx x (by simp);rw [ZaD,ZI (by rw [Pz,Zaj];omega),Pz,Zaj,show i*sz+sz+j-sz=i*sz+j from by omega];exact o5 xs i (fun r KC=>hx r (by simp [KC])) (by simpa using hr) hu
theorem QN {E:TypeId} (hx:∀ r∈xs,r.length=sz) (hn:xs.length=n) (h:(row E sz v n xs.flatten).sat (hp w) fp):Rd w v sz xs:=by
 subst hn;obtain ⟨_,hl,h1⟩:=h;rcases h1 with ⟨rfl,hn⟩ | ⟨g,cap,cur,rfl,hg,dD,hm,hsz,eo⟩
 ·have:xs=[]:=Zaq.1 hn;subst this;exact Rd.nil w sz
 ·refine ⟨_,cap,g,0,I,dD,hm,fun _=>rfl,fun i r hr=>⟨hx r (ZV hr),fun j u hu=>?_⟩⟩;have U4:w.heap[g]? = some (.cells cur E (0,0)):=hg;rw [cell_of_block U4];have XX:=hx r (ZV hr);have hi:i<xs.length:=(Zl.1 hr).1;have hj:j<sz:=by rw [<- XX];exact (Zl.1 hu).1
  have PJ:xs.flatten[i*sz+j]? = some u:=o5 xs i hx hr hu;have aN:i*sz+j<xs.length*sz:=by
   have:(i+1)*sz<=xs.length*sz:=Z9 _ hi;rw [Zaj] at this;omega
  rw [<- eo,ZH,if_pos aN] at PJ;simpa using PJ
theorem Mem.qm {c:Cx} {hs hs':List bh} (hm:Mem c hs w) {E:TypeId} {sz:Nat} {v:Value} {n:Nat} {ys:List Value} {xs:List (List Value)} (ht:Take hs (row E sz v n ys) hs') (he:ys=xs.flatten) (hx:∀ r∈xs,r.length=sz) (hn:xs.length=n):Rd w v sz xs:=by
 subst he;obtain ⟨_,fp,_,⟨f1,f2,_,h1,_⟩,_⟩:=hm.take ht;exact QN hx hn h1
theorem lz {α:Type} (l:List α):(l.map fun v=>[v]).flatten=l:=by
 induction l with
 | nil=>rfl
 | cons x l ih=>simp [ih]
theorem Mem.QX {c:Cx} {hs hs':List bh} (hm:Mem c hs w) {E:TypeId} {v:Value} {n:Nat} {ys:List Value} (ht:Take hs (row E 1 v n ys) hs') (hn:ys.length=n):Rd w v 1 (ys.map fun u=>[u]):=
 hm.qm ht (lz ys).symm (fun r hr=>by obtain ⟨u,_,rfl⟩:=Zw.1 hr;rfl) (by simpa using hn)
theorem dP {c:Cx} {D:List Nat} {sl:aD} {hs hs':List bh} {E:TypeId} {xs:List Value} (ht:Take hs (row E sz v n xs) hs') (hn:0<n)
  (k:∀ g cap cur,v=.w g n cap->n<=cap->cap<=maxLen->(xs++cur).length=cap*sz->xs.length=n*sz->Tr c D sl (bA g (.cells (xs++cur).toArray E (0,0))::hs') X):Tr c D sl hs X:=fun a w bj=>by
 have hm:=bj.mem.take (ht.append _);obtain ⟨kk,fp,jX,⟨f1,f2,rfl,⟨e,hl,h1⟩,h2⟩,hb⟩:=hm;rcases h1 with ⟨_,h0⟩ | ⟨g,cap,cur,rfl,hg,dD,xT,hsz,eo⟩
 ·omega
 ·have nH:cur=(xs++cur.toList.drop (n*sz)).toArray:=by
   rw [<- eo,ZX]
  have hlen:(xs++cur.toList.drop (n*sz)).length=cap*sz:=by rw [<- eo,ZX];simpa using hsz
  refine k g cap (cur.toList.drop (n*sz)) I dD xT hlen hl a w (bj.heap ⟨kk,f1++f2,jX,⟨f1,f2,I,⟨?_,?_⟩,h2⟩,hb⟩)
  ·rw [e];rfl
  ·rw [<- nH];exact hg
theorem Mem.Nl {c:Cx} {hs:List bh} {E:TypeId} {sz g n cap:Nat} {xs cur:List Value} (hm:Mem c (SL.bA g (.cells (xs++cur).toArray E (0,0))::hs) w) (dD:n<=cap) (xT:cap<=maxLen) (hsz:(xs++cur).length=cap*sz) (hl:xs.length=n*sz):Mem c (row E sz (.w g n cap) n xs::hs) w:=by
 obtain ⟨kk,fp,jX,⟨f1,f2,rfl,⟨e,hg⟩,h2⟩,hb⟩:=hm;refine ⟨kk,f1++f2,jX,⟨f1,f2,I,⟨by rw [e];rfl,hl,.inr ⟨g,cap,_,I,hg,dD,xT,by simpa using hsz,?_⟩⟩,h2⟩,hb⟩;simp [<- hl]
theorem dq {c:Cx} {D:List Nat} {sl:aD} {hs hs':List bh} {E:TypeId} {sz g n cap:Nat} {xs cur:List Value} (ht:Take hs (bA g (.cells (xs++cur).toArray E (0,0))) hs') (dD:n<=cap) (xT:cap<=maxLen) (hsz:(xs++cur).length=cap*sz) (hl:xs.length=n*sz)
  (k:Tr c D sl (row E sz (.w g n cap) n xs::hs') X):Tr c D sl hs X:=fun a w bj=>
 k a w (bj.heap (Mem.Nl (bj.mem.take (ht.append _)) dD xT hsz hl))
section
variable {P:Program} {r:Option Nat} {c:Cx} {D:List Nat} {sl:aD} {hs hs':List bh} {ops:Array Oper} {Q:Exit->Act->World->Prop} {d:Nat} {ty:TypeId} {pos:String} {af:Array Edge} {rest:List Oper}
variable {z:Value}
theorem qS {w w':World} {t ty e:TypeId} {i:TypeInfo} (ht:P.underlying t=some (.slice e)) (hi:P.info? e=some i) (hz:i.zero=some z)
  {v v':Value} {n:Nat} {xs:List Value} (rR:w.ownsRow 0 e i.size v n xs) {a:Addr} {m cp:Nat} {news:List Value} (hl:news.length=m*i.size) (rT:∀ j u,news[j]? = some u->w.cell? (a.add j)=some u) (h1:∀ u∈news,u.oneCell'=true)
  (h63:n+m<=maxLen) (gZ:(n+m)*i.bytes<=140737488355328) (ij:(Builtin.append_ #[t,t] ty #[v,.slice (some a) m cp]).run P w=.ok v' w'):(v'.ownBlock=v.ownBlock\/v'.ownBlock=some w.heap.size)/\w.drawn<=w'.drawn:=by
 have XR:n+m<=9223372036854775807:=by simp only [maxLen] at h63;omega
 rcases rR.2 with ⟨rfl,rfl⟩ | ⟨g,cap,cur,rfl,Ss,hg,hnc,hcm,hcs,eo⟩
 ·by_cases hm:m=0
  ·subst hm;have hn:news=[]:=Z4 (by simpa using hl);subst hn;have:(Builtin.append_ #[t,t] ty #[.z,.slice (some a) 0 cp]).run P w=.ok (.z) w:=by
    simp [Builtin.append_,aW ht,sizeOf,typeInfo,hi,Builtin.lenOf,Builtin.firstCells,loadCells,loadCellsFrom]
   rw [ij] at this;cases this;exact ⟨.inl I,ZC _⟩
  ·have hr:=run_append_nil (P:=P) w t ty e i z ht hi hz a m cp news hl rT (by omega) (by omega) (by have hb:=gZ;simp only [ZE] at hb;omega);rw [ij] at hr;cases hr;exact ⟨.inr I,Nat.le_succ _⟩
 ·by_cases zf:n+m<=cap
  ·have hfit:n*i.size+news.length<=cur.size:=by rw [hl,hcs,<- Nat.add_mul];exact Z9 _ zf
   have hr:=run_append_room (P:=P) w t ty e i ht hi g n cap cur hg a m cp news hl rT h1 zf hfit;rw [ij] at hr;cases hr;exact ⟨.inl I,ZC _⟩
  ·have holds:∀ j u,xs[j]? = some u->w.cell? ((⟨g,0,none⟩:Addr).add j)=some u:=rR.cells (g:=g) I;have hr:=run_append_grow (P:=P) w t ty e i z ht hi hz ⟨g,0,none⟩ n cap xs rR.1 holds a m cp news hl rT (by omega) (by omega) (growslice_fits (by omega) gZ);rw [ij] at hr;cases hr;exact ⟨.inr I,Nat.le_succ _⟩
theorem yC {t e:TypeId} {agg:Bool} {size bytes:Nat} {x y:Operand} {v:Value} {n b o m cp:Nat} {xs news:List Value} [hu:gJ P t (.slice e)] [hT:Ty P e agg size] [hZ:lQ P e z] [hB:u9 P e bytes]
  (hx:Is sl x v) (hy:Is sl y (.slice (some ⟨b,o,none⟩) m cp)) (ht:Take hs (row e size v n xs) hs') (hn:eO c hs b o news) (hl:news.length=m*size) (h1:∀ u∈news,u.oneCell'=true) (hz:z.cells.size=size) (hsz:Nat.blt 0 size=true) (hb0:Nat.blt 0 bytes=true)
  (hb:(n+m)*bytes<=140737488355328) (hd:Nat.blt d c.nt=true)
  (k:∀ v',Tr c D ((d,v')::sl) (row e size v' (n+m) (xs++news)::hs') (WL P r ops Q rest)) :
  Tr c D sl hs (WL P r ops Q (⟨some d,.call ⟨.builtin .append,#[x,y],#[t,t]⟩,ty,pos,af,none⟩::rest)):=fun a w bj=>by
 obtain ⟨de,i,lp,hi,_,iP⟩:=Ty.parts (P:=P) (t:=e) (agg:=agg) (n:=size);have hzero:i.zero=some z:=by have:=hZ.eq;rw [hi] at this;simpa using this
 have gZ:i.bytes=bytes:=by have:=hB.eq;rw [hi] at this;simpa using this
 have WJ:=bj.rG;have hm:=bj.mem.take (ht.append _);obtain ⟨kk,fp,jX,⟨f1,f2,rfl,hrow,h2⟩,Ep⟩:=hm;have rR:=B1 hrow;have CE:0<bytes:=by simpa using hb0
 have cr:n+m<=maxLen:=by
  have:(n+m)*1<=(n+m)*bytes:=Zbr _ CE;unfold maxLen;omega
 obtain ⟨v',w',ij,rQ,wC,_⟩:=run_append_own (P:=P) w 0 t ty e i z size bytes hu.eq hi hzero iP gZ hz (by simpa using hsz) v n xs rR ⟨b,o,none⟩ m cp news hl
  (fun j u hj=>by rw [eW];exact hn.get j u hj w WJ) h1 cr hb (Zi _)
 have xU:=qS (P:=P) (t:=t) (ty:=ty) hu.eq hi hzero (by rw [iP];exact rR) (a:=⟨b,o,none⟩) (m:=m) (cp:=cp) (by rw [iP];exact hl) (fun j u hj=>by rw [eW];exact hn.get j u hj w WJ) h1 cr (by rw [gZ];exact hb) ij
 refine mB I ⟨eb _ _ _ _ _,?_⟩;rw [Oper.semAt_eq _ _ _ (by simp)];have:(execOp a.eval ⟨some d,.call ⟨.builtin .append,#[x,y],#[t,t]⟩,ty,pos,af,none⟩).run P w=.ok (.value v') w':=by
  simp [execOp,resolve,invoke,builtin,hx a bj.dh,hy a bj.dh,ij]
 rw [this];refine k v' _ _ ((bj.put (by simpa [Z1] using hd) v').heap ?_);have hm:Mem c ([row e size v n xs]++(hs'++mN D)) w:=⟨kk,f1++f2,jX,⟨f1,f2,I,hrow,h2⟩,Ep⟩;have:=Mem.change (Bs:=[row e size v' (n+m) (xs++news)]) (w':=w') hm fun fp uW hf=>by
  obtain ⟨g1,g2,e1,hr,e2⟩:=hf;have G5:fp=v.ownBlock.toList:=by rw [e1,show g2=[] from e2,hr.1];simp
  refine ⟨⟨wC.os,wC.tape,wC.output,xU.2,wC.size,fun q hq Yf=>wC.block q hq (fun he=>Yf ?_)⟩,v'.ownBlock.toList,?_,⟨_,[],by simp,lX rQ,I⟩,fun q hq=>?_⟩
  ·rw [G5,<- he];simp
  ·cases v'.ownBlock <;> simp
  ·have xA:v'.ownBlock=some q:=by simpa [Option.mem_toList] using hq
   rcases xU.1 with h | h
   ·left;rw [G5,<- h,xA];simp
   ·right
    rw [h] at xA;cases xA;exact ZC _
 simpa using this
end
end Go.SL
namespace Go.SL
open Go
def Da {ι:Type} (c:Cx) (D:List Nat) (Φ:ι->Prop) (sI:ι->aD) (hI:ι->List bh) (μ:ι->Nat) (i:ι):Act->World->Prop:=fun a w=>∃ j,Φ j/\μ j<μ i/\St c D (sI j) (hI j) a w
def zA {ι:Type} (c:Cx) (D:List Nat) (Φ:ι->Prop) (sI:ι->aD) (hI:ι->List bh):Act->World->Prop:=fun a w=>∃ i,Φ i/\St c D (sI i) (hI i) a w
section
variable {P:Program} {r:Option Nat} {c:Cx} {D:List Nat} {sl:aD} {hs hs':List bh} {Q:Exit->Act->World->Prop} {ι:Type} {Φ:ι->Prop} {sI:ι->aD} {hI:ι->List bh} {μ:ι->Nat}
theorem bd {x:Code} (Φ:ι->Prop) (sI:ι->aD) (hI:ι->List bh) (μ:ι->Nat) (h0:Tr c D sl hs (zA c D Φ sI hI))
  (round:∀ i,Φ i->Tr c D (sI i) (hI i) (WP P r x (Exit.then (Da c D Φ sI hI μ i) Q))):Tr c D sl hs (WP P r (.loop x) Q):=
 MS Φ sI hI μ h0 round
def lH (sl:aD):aD->Prop
 | []=>True
 | (t,v)::r=>cW sl t=some v/\lH sl r
theorem lH.get:∀ {jr:aD},lH sl jr->∀ t v,cW jr t=some v->cW sl t=some v
 | [],_,t,v,h=>by cases h
 | (u, x) :: r, ⟨h1, h2⟩, t, v, h => by
  by_cases e:u=t
  ·subst e;rw [fO] at h;cases h;exact h1
  ·rw [fN e] at h;exact lH.get h2 t v h
theorem lH.nil:lH sl []:=trivial
variable {s:ByteArray} {t:Nat} {x:Operand}
theorem lH.cons {v:Value} {r:aD} (h:cW sl t=some v) (k:lH sl r):lH sl ((t,v)::r):=⟨h,k⟩
theorem lH.Lr {v u:Value} {r:aD} (h:cW sl t=some u) (e:u=v) (k:lH sl r):lH sl ((t,v)::r):=⟨e ▸ h,k⟩
theorem St.weaken {jr:aD} {hs1 rest:List bh} {a:Act} {w:World} (h:St c D sl hs a w) (hs':lH sl jr) (ht:bK hs hs1 rest):St c D jr hs1 a w:=by
 refine ⟨?_,h.dh.sub hs'.get,h.size,h.defers⟩;have h1:=h.mem.jo (ht.append (mN D))
 -- hs1++(rest++mN):forget Bn rest
 obtain ⟨k,fp,hn,gY,hb⟩:=h1;obtain ⟨f1,f2,rfl,s1,s2⟩:=cA.append_iff.1 gY;obtain ⟨g1,g2,rfl,s3,s4⟩:=cA.append_iff.1 s2;refine ⟨k,f1++g2,?_,cA.append_iff.2 ⟨f1,g2,I,s1,s4⟩,fun b dK=>hb b ?_⟩
 ·obtain ⟨n1,n2,n3⟩:=Zx.1 hn;obtain ⟨_,n5,_⟩:=Zx.1 n2;exact Zx.2 ⟨n1,n5,fun x hx y hy=>n3 x hx y (ZM _ hy)⟩
 ·rcases Zq.1 dK with h | h
  ·exact ZD _ h
  ·exact ZM _ (ZM _ h)
theorem aI {i:ι} (j:ι) {rest:List bh} (hΦ:Φ j) (hμ:μ j<μ i) (hs1:lH sl (sI j)) (ht:bK hs (hI j) rest):Tr c D sl hs (Da c D Φ sI hI μ i):=
 fun a w bj=>⟨j,hΦ,hμ,bj.weaken hs1 ht⟩
theorem aJ (j:ι) {rest:List bh} (hΦ:Φ j) (hs1:lH sl (sI j)) (ht:bK hs (hI j) rest):Tr c D sl hs (zA c D Φ sI hI):=
 fun a w bj=>⟨j,hΦ,bj.weaken hs1 ht⟩
variable {ops:Array Oper} {d:Nat} {dst:Option Tmp} {ty:TypeId} {pos:String} {af:Array Edge} {g:Option (Nat×Bool)} {rest:List Oper}
theorem GD {t:TypeId} [hu:gJ P t .string] (hx:Is sl x (.string s)):pt P c sl hs ⟨dst,.range t x,ty,pos,af,g⟩ (fun b=>.p b) (.stringIter s 0):=
 ⟨by simp,fun a w ha _=>by simp [execOp,hx a ha,Instr.range,aW hu.eq]⟩
theorem HW {b p:Nat} (hx:Is sl x (.p b)) (ht:Take hs (bA b (.stringIter s p)) hs') (hd:Nat.blt d c.nt=true)
  (kt:p<s.size->Tr c D ((d,.tuple [Value.bool true,.q p,.int .i32 (Utf8.decode s p).1].toArray)::sl) (bA b (.stringIter s (p+(Utf8.decode s p).2))::hs') (WL P r ops Q rest))
  (kf:¬ p<s.size->Tr c D ((d,.tuple [Value.bool false].toArray)::sl) (bA b (.stringIter s p)::hs') (WL P r ops Q rest)) :
  Tr c D sl hs (WL P r ops Q (⟨some d,.next x true,ty,pos,af,none⟩::rest)):=fun a w bj=>by
 have hm:=bj.mem.take (ht.append _);have hb:w.heap[b]? = some (.stringIter s p):=hm.bA .here;have aN:=ko (w:=w) hb;refine mB I ⟨eb _ _ _ _ _,?_⟩;rw [Oper.semAt_eq _ _ _ (by simp)];by_cases h:p<s.size
 ·have:(execOp a.eval ⟨some d,.next x true,ty,pos,af,none⟩).run P w=.ok (.value (.tuple [Value.bool true,.q p,.int .i32 (Utf8.decode s p).1].toArray)) (setBlock w b (.stringIter s (p+(Utf8.decode s p).2))):=by
   simp [execOp,hx a bj.dh,Instr.next,getObj,setObj,Sem.run,hb,h,goInt,setBlock]
  rw [this];exact kt h _ _ ((bj.put (by simpa [Z1] using hd) _).heap (Mem.store hm (aH.setBlock w b _) (mg aN)))
 ·have:(execOp a.eval ⟨some d,.next x true,ty,pos,af,none⟩).run P w=.ok (.value (.tuple [Value.bool false].toArray)) w:=by
   simp [execOp,hx a bj.dh,Instr.next,getObj,Sem.run,hb,h]
  rw [this];exact kf h _ _ ((bj.put (by simpa [Z1] using hd) _).heap hm)
structure KeyLaw (kind:TypeDesc) {κ:Type} [DecidableEq κ] (kv:κ->Value):Prop where
 same:∀ a b,Instr.sameNow kind (kv a) (kv b)=some (decide (a=b))
 bits:∀ a,Instr.sameBits 10000 (kv a) (kv a)=true
 flat:∀ (P:Program) (t:TypeId) (e:Bool) (w:World) (a:κ),P.underlying t=some kind->(Instr.checkKey e 10000 t (kv a)).run P w=.ok () w
structure JX {κ:Type} (kv:κ->Value) (l:List (κ×Value)) (es:Array MapEntry) (ck:Nat):Prop where
 eq:es.toList.map (fun e=>(e.key,e.val))=l.map (fun p=>(kv p.1,p.2))
 nd:(es.toList.map (·.born)).Nodup
 lt:∀ x∈es.toList,x.born<ck
def mp {κ:Type} (kv:κ->Value) (b:Nat) (l:List (κ×Value)):bh where
 sat h fp:=fp=[b]/\∃ es clock,h b=some (.map es clock)/\JX kv l es clock
 loc:=fun ⟨e,es,ck,h1,h2⟩ hb=>⟨e,es,ck,by rw [hb _ (by rw [e];simp)];exact h1,h2⟩
 own:=fun ⟨e,es,ck,h1,h2⟩ b' dK=>by rw [e] at dK;rw [ZB.1 dK];exact ⟨_,h1⟩
def eN {κ:Type} [DecidableEq κ] (k:κ):List (κ×Value)->Option Value
 | []=>none
 | (x,v)::r=>if k=x then some v else eN k r
def mY {κ:Type} [DecidableEq κ] (k:κ) (v:Value):List (κ×Value)->List (κ×Value)
 | []=>[(k,v)]
 | (x,u)::r=>if k=x then (x,v)::r else (x,u)::mY k v r
section
variable {κ:Type} [DecidableEq κ] {kv:κ->Value} {kind:TypeDesc}
theorem findNow_spec (hk:KeyLaw kind kv) (k:κ):∀ (es:List MapEntry) (l:List (κ×Value)) (i:Nat),es.map (fun e=>(e.key,e.val))=l.map (fun p=>(kv p.1,p.2)) ->
  (eN k l=none/\Instr.findNow kind (kv k) es i=some none) \/
  (∃ j v,eN k l=some v/\Instr.findNow kind (kv k) es i=some (some (i+j,v))/\j<es.length/\(∃ x,l[j]? = some (x,v)/\x=k)/\∀ u,mY k u l=l.set j (k,u))
 | [],[],i,_=>.inl ⟨rfl,rfl⟩
 | [],_::_,i,h=>by simp at h
 | _::_,[],i,h=>by simp at h
 | e :: es, (x, v) :: l, i, h => by
  simp only [Zaf,List.cons.injEq,Prod.mk.injEq] at h;obtain ⟨⟨h1,h2⟩,h3⟩:=h;have hs:=hk.same k x;unfold Instr.findNow;rw [h1,hs];by_cases e':k=x
  ·subst e';refine .inr ⟨0,v,by simp [eN],by simp [h2],by simp,⟨k,by simp,I⟩,fun u=>by simp [mY]⟩
  ·simp only [e',decide_false];rcases findNow_spec hk k es l (i+1) h3 with ⟨a1,a2⟩ | ⟨j,u,a1,a2,a3,⟨y,a4,a5⟩,a6⟩
   ·exact .inl ⟨by simp [eN,e',a1],a2⟩
   ·exact .inr ⟨j+1,u,by simp [eN,e',a1],by rw [a2];congr 3;omega,by simp;omega,⟨y,by simpa using a4,a5⟩,fun u'=>by simp [mY,e',a6 u']⟩
theorem zv {k:κ} {v:Value}:∀ {l:List (κ×Value)},eN k l=none->mY k v l=l++[(k,v)]
 | [],_=>rfl
 | (x, u) :: r, h => by
  simp only [eN] at h;split at h
  ·cases h
  ·rename_i e;simp [mY,e,zv h]
theorem Dz {t:TypeId} (kv:κ->Value) (hd:Nat.blt d c.nt=true) (k:∀ b,c.w0.heap.size<=b->Tr c D ((d,.map (some b))::sl) (mp kv b []::hs) (WL P r ops Q rest)) :
  Tr c D sl hs (WL P r ops Q (⟨some d,.makeMap t none,ty,pos,af,none⟩::rest)):=
 bn DQ hd fun b hb a w bj=>k b hb a w (bj.heap (by
  obtain ⟨kk,fp,hn,⟨f1,f2,rfl,⟨e,h1⟩,h2⟩,Ep⟩:=bj.mem;exact ⟨kk,f1++f2,hn,⟨f1,f2,I,⟨e,#[],0,h1,I,Zah,fun _ h=>by cases h⟩,h2⟩,Ep⟩))
def Looks (c:Cx) (hs:List bh) (b:Nat) (kv:κ->Value) (l:List (κ×Value)):Prop:=∀ w,Mem c hs w->∃ es clock,w.heap[b]? = some (.map es clock)/\JX kv l es clock
variable {b:Nat} {k:κ} {l:List (κ×Value)}
theorem Looks.mp (ht:Take hs (SL.mp kv b l) hs'):Looks c hs b kv l:=fun w hm=>by
 obtain ⟨_,fp,_,⟨f1,f2,_,⟨_,es,ck,h1,h2⟩,_⟩,_⟩:=hm.take ht;exact ⟨es,ck,h1,h2⟩
theorem GF {t kt et:TypeId} {x y:Operand} {z:Value} [hu:gJ P t (.map kt et)] [G4:gJ P kt kind] [hz:lQ P et z] (hk:KeyLaw kind kv) (hx:Is sl x (.map (some b))) (hy:Is sl y (kv k)) (hl:Looks c hs b kv l) :
  cM P c sl hs ⟨dst,.lookup t x y false,ty,pos,af,g⟩ ((eN k l).getD z):=
 ⟨by
   simp,fun a w ha hm=>by
  obtain ⟨es,ck,h1,h2⟩:=hl w hm;have hg:(getObj b).run P w=.ok (.map es ck) w:=by simp [getObj,Sem.run,h1]
  have Bt:=hk.flat P kt es.isEmpty w k G4.eq;rcases findNow_spec hk k es.toList l 0 h2.eq with ⟨a1,a2⟩ | ⟨j,v,a1,a2,_⟩
  ·have:(Instr.findKey kt (kv k) es.toList).run P w=.ok none w:=by
    simp [Instr.findKey,aW G4.eq,a2]
   simp [execOp,hx a ha,hy a ha,Instr.lookup,aW hu.eq,hg,Bt,this,a1,iI (t:=et) (v:=z)]
  ·have:(Instr.findKey kt (kv k) es.toList).run P w=.ok (some (0+j,v)) w:=by
    simp [Instr.findKey,aW G4.eq,a2]
   simp [execOp,hx a ha,hy a ha,Instr.lookup,aW hu.eq,hg,Bt,this,a1]⟩
theorem nk {t kt et:TypeId} {x y v':Operand} {v:Value} [hu:gJ P t (.map kt et)] [G4:gJ P kt kind] (hk:KeyLaw kind kv) (hx:Is sl x (.map (some b))) (hy:Is sl y (kv k)) (hv:Is sl v' v) (ht:Take hs (mp kv b l) hs')
  (kk:Tr c D sl (mp kv b (mY k v l)::hs') (WL P r ops Q rest)):Tr c D sl hs (WL P r ops Q (⟨none,.mapUpdate t x y v',ty,pos,af,none⟩::rest)):=fun a w bj=>by
 have hm:=bj.mem.take (ht.append _);obtain ⟨kk0,fp,hn,⟨f1,f2,rfl,⟨e,es,ck,h1,h2⟩,h3⟩,Ep⟩:=hm;have Dn:w.heap[b]? = some (.map es ck):=h1;have hm:Mem c ([mp kv b l]++(hs'++mN D)) w:=⟨kk0,f1++f2,hn,⟨f1,f2,I,⟨e,es,ck,h1,h2⟩,h3⟩,Ep⟩;have hg:(getObj b).run P w=.ok (.map es ck) w:=by simp [getObj,Sem.run,Dn]
 have rN:∀ o,(setObj b o).run P w=.ok () (setBlock w b o):=fun o=>by simp [setObj,Sem.run,Dn,setBlock]
 have Bt:=hk.flat P kt false w k G4.eq;have aN:=ko (w:=w) Dn;have ij:∃ OJ VT,(execOp a.eval ⟨none,.mapUpdate t x y v',ty,pos,af,none⟩).run P w=.ok .skip (setBlock w b (.map OJ VT))/\JX kv (mY k v l) OJ VT:=by
  rcases findNow_spec hk k es.toList l 0 h2.eq with ⟨a1,a2⟩ | ⟨j,v0,a1,a2,hj,⟨x0,RI,rfl⟩,mq⟩
  ·have hf:(Instr.findKey kt (kv k) es.toList).run P w=.ok none w:=by
    simp [Instr.findKey,aW G4.eq,a2]
   refine ⟨es.push { key:=kv k,val:=v,born:=ck },ck+1,?_,?_⟩
   ·simp [execOp,hx a bj.dh,hy a bj.dh,hv a bj.dh,Instr.mapUpdate,aW hu.eq,hg,Bt,hf,rN]
   ·refine ⟨?_,?_,?_⟩
    ·rw [zv a1];simp [h2.eq]
    ·simp only [Array.toList_push,Zz,Zaf,Zf];refine Zx.2 ⟨h2.nd,by simp,fun x hx y hy e=>?_⟩;obtain ⟨z,hz,rfl⟩:=Zw.1 hx;have:=h2.lt z hz;simp at hy;omega
    ·intro x hx;rw [Array.toList_push,Zq] at hx;rcases hx with hx | hx
     ·have:=h2.lt x hx;omega
     ·simp at hx;subst hx;show ck<ck+1;omega
  ·have hf:(Instr.findKey kt (kv x0) es.toList).run P w=.ok (some (0+j,v0)) w:=by
    simp [Instr.findKey,aW G4.eq,a2]
   have wu:(es[j]?.map (·.key)).getD (kv x0)=kv x0:=by
    have h5:(es.toList.map (fun e=>(e.key,e.val)))[j]? = some (kv x0,v0):=by rw [h2.eq];simp [RI]
    rw [ZJ] at h5;obtain ⟨e0,Bu,KU⟩:=Zak.1 h5;simp only [Prod.mk.injEq] at KU;have:es[j]? = some e0:=by simpa using Bu
    simp [this,KU.1]
   have Yr:(Instr.keyThatStays (kv x0) (kv x0)).run P w=.ok (kv x0) w:=by simp [Instr.keyThatStays,hk.bits]
   refine ⟨es.modify j fun e=>{ e with key:=kv x0,val:=v },ck,?_,?_⟩
   ·simp only [execOp,hx a bj.dh,hy a bj.dh,hv a bj.dh,Instr.mapUpdate,Sem.run_bind,aW hu.eq,Result.andThen_ok,hg,Bt,hf,ZE,wu,Yr,rN,Sem.run_pure]
   ·have PL:((es.modify j fun e=>{ e with key:=kv x0,val:=v }).toList.map (·.born))=es.toList.map (·.born):=by
     rw [Array.toList_modify];apply Zat;intro q;rw [ZJ,ZJ,List.getElem?_modify];by_cases Tq:j=q
     ·subst Tq;cases es.toList[j]? <;> simp
     ·simp [Tq]
    refine ⟨?_,by rw [PL];exact h2.nd,fun x hx=>?_⟩
    rotate_left
    ·have:x.born∈es.toList.map (·.born):=by rw [<- PL];exact Zw.2 ⟨x,hx,I⟩
     obtain ⟨y,hy,e⟩:=Zw.1 this;rw [<- e];exact h2.lt y hy
    rw [mq];rw [Array.toList_modify];apply Zat;intro q;rw [ZJ,ZJ,List.getElem?_modify,List.getElem?_set];have hq:(es.toList.map (fun e=>(e.key,e.val)))[q]? = (l.map (fun p=>(kv p.1,p.2)))[q]?:=by rw [h2.eq]
    rw [ZJ,ZJ] at hq;have hlen:es.toList.length=l.length:=by have:=congrArg List.length h2.eq;simpa using this
    by_cases Tq:j=q
    ·subst Tq;have KN:j<l.length:=by rw [<- hlen];exact hj
     have he:es.toList[j]? = some es.toList[j]:=Zc hj;rw [he,if_pos I,if_pos KN];simp
    ·rw [if_neg Tq,<- hq];simp [Tq]
 obtain ⟨OJ,VT,hr,dw⟩:=ij;refine mB I ⟨eb _ _ _ _ _,?_⟩;rw [Oper.semAt_eq _ _ _ (by simp),hr];refine kk _ _ (bj.heap ?_);have:=Mem.change (Bs:=[mp kv b (mY k v l)]) (w':=setBlock w b (.map OJ VT)) hm fun fp uW hf=>by
  obtain ⟨g1,g2,e1,KC,e2⟩:=hf;have G5:fp=[b]:=by rw [e1,show g2=[] from e2,KC.1];rfl
  subst G5;exact ⟨aH.setBlock w b _,[b],by simp,⟨[b],[],I,⟨I,OJ,VT,mg aN,dw⟩,I⟩,fun q hq=>.inl hq⟩
 simpa using this
end
theorem Kg:KeyLaw .string (fun s:ByteArray=>Value.string s) where
 same a b:=by
  simp only [Instr.sameNow];congr 1;rw [beq_toListBytes,uH]
 bits a:=by unfold Instr.sameBits;simp [beq_toListBytes]
 flat P t e w a h:=by unfold Instr.checkKey;simp [aW h]
end
end Go.SL
namespace Go.SL
open Go
def OI {ι:Type} (Φ:ι->Prop) (A:ι->List bh):bh where
 sat h fp:=∃ x,Φ x/\cA h (A x) fp
 loc:=fun ⟨x,hx,hs⟩ hb=>⟨x,hx,hs.loc hb⟩
 own:=fun ⟨_,_,hs⟩ b hb=>hs.own b hb
section
variable {P:Program} {r:Option Nat} {c:Cx} {D:List Nat} {sl:aD} {hs hs':List bh} {Q:Exit->Act->World->Prop} {ι:Type}
variable {A:ι->List bh} {R:Ending->World->Prop} {f:FuncId} {l:Nat} {pd:Option Code} {post:Bool->bh} {rc:Loop} {s:LoopState}
theorem GC {tmps:Array Value} {EN body:Code} {w:World} (h:RoundIn (FR none) 0 P l f tmps EN body w R):RoundIn (FR r) 0 P l f tmps EN body w R:=h
variable {ops:Array Oper} {d:Nat} {ty:TypeId} {pos:String} {af:Array Edge} {rest:List Oper}
def fX (rc:Loop) (s:LoopState) (pd:Option Code):Obj:=.loop { rc with state:=s,pending:=pd }
def px (md:List Nat) (w:World) (post:Bool->bh):Ending->World->Prop:=fun e W'=>∃ b,e=.returned (.bool b)/\aH md w W'/\∃ lO:List Nat,lO.Nodup/\(post b).sat (hp W') lO/\∀ x∈lO,x∈md\/w.heap.size<=x
def EU (P:Program) (l:Nat) (body:Code) (R:Ending->World->Prop):Act->World->Prop:=fun a₁ w₁=>∃ w₂,(Instr.beginRound l).run P w₁=.ok () w₂/\body.wpIn (FR (some l)) 0 P (roundPost P l R) a₁ w₂
theorem mF {body:Code} (ht:Take hs (bA l (fX rc .ready pd)) hs') (k:Tr c D sl (bA l (fX rc .busy pd)::hs') (WP P (some l) body (roundPost P l R))):Tr c D sl hs (EU P l body R):=fun a w bj=>by
 have hm:=bj.mem.take (ht.append _);have hb:w.heap[l]? = some (fX rc .ready pd):=hm.bA .here;refine ⟨w.putObj l (fX rc .busy pd),run_beginRound (r:={ rc with state:=.ready,pending:=pd }) hb I,k a _ (bj.heap (Mem.store hm ⟨I,I,I,ZC _,by simp,fun k _ hn=>World.putObj_heap_other (by simpa using hn)⟩ (World.putObj_heap_same (ko (w:=w) hb))))⟩
theorem yM {pd jump:Option Code} (ht:Take hs (bA l (fX rc s pd)) hs') {hs2:List bh} (ht2:∀ w,Mem c (bA l (fX rc (if jump.isNone then .ready else .done) jump)::hs') w->∃ fp:List Nat,fp.Nodup/\(post jump.isNone).sat (hp w) fp/\∀ b∈fp,c.w0.heap.size<=b\/b∈c.md)
  {a:Act} {w:World} (bj:St c D sl hs a w):∃ v w',(Instr.endRound l jump).run P w=.ok v w'/\px c.md c.w0 post (.returned v) w':=by
 have _:=hs2;have hm:=bj.mem.take (ht.append _);have hb:w.heap[l]? = some (fX rc s pd):=hm.bA .here;have hk:aH [l] w (w.putObj l (fX rc (if jump.isNone then .ready else .done) jump)):=⟨I,I,I,ZC _,by simp,fun k _ hn=>World.putObj_heap_other (by simpa using hn)⟩
 have mr:=Mem.store hm hk (World.putObj_heap_same (ko (w:=w) hb));refine ⟨.bool jump.isNone,_,run_endRound (r:={ rc with state:=s,pending:=pd }) jump hb,jump.isNone,I,mr.keeps,?_⟩;obtain ⟨fp,h1,h2,h3⟩:=ht2 _ (by have:=mr;rw [<- Zb] at this;exact this.lD);exact ⟨fp,h1,h2,fun b hb=>(h3 b hb).symm⟩
theorem It {Φ:ι->Prop} (x:ι) (hx:Φ x) {As rest:List bh} (ht:bK As (A x) rest) {w:World} (hm:Mem c As w):∃ fp:List Nat,fp.Nodup/\(OI Φ A).sat (hp w) fp/\∀ b∈fp,c.w0.heap.size<=b\/b∈c.md:=by
 obtain ⟨_,fp,hn,gY,hb⟩:=hm.jo ht;obtain ⟨f1,f2,rfl,h1,_⟩:=cA.append_iff.1 gY;exact ⟨f1,(Zx.1 hn).1,⟨x,hx,h1⟩,fun b dK=>hb b (ZD _ dK)⟩
theorem Gs {Φ:ι->Prop} (x:ι) {rest:List bh} (Br:post true=OI Φ A) (ht:Take hs (bA l (fX rc s pd)) hs') (hx:Φ x) (h2:bK (bA l (fX rc .ready none)::hs') (A x) rest) :
  Tr c D sl hs (roundPost P l (px c.md c.w0 post) .normal):=fun _ _ bj=>
 yM (jump:=none) (hs2:=[]) ht (fun w hm=>by show ∃ fp:List Nat,fp.Nodup/\(post true).sat (hp w) fp/\_;rw [Br];exact It x hx h2 hm) bj
theorem Gr {Φ:ι->Prop} (x:ι) {rest:List bh} (Br:post false=OI Φ A) (ht:Take hs (bA l (fX rc s pd)) hs') (hx:Φ x) (h2:bK (bA l (fX rc .done (some .ret))::hs') (A x) rest) :
  Tr c D sl hs (roundPost P l (px c.md c.w0 post) .ret):=fun _ _ bj=>
 yM (jump:=some .ret) (hs2:=[]) ht (fun w hm=>by show ∃ fp:List Nat,fp.Nodup/\(post false).sat (hp w) fp/\_;rw [Br];exact It x hx h2 hm) bj
def ml:List (Nat×Value)->aD->aD
 | [],sl=>sl
 | (t,v)::r,sl=>ml r ((t,v)::sl)
theorem yS {nt:Nat}:∀ (ps:List (Nat×Value)) (sl:aD) (tmps:Array Value),bW sl ⟨tmps,[]⟩->tmps.size=nt->(∀ p∈ps,p.1<nt) ->
  bW (ml ps sl) ⟨ps.foldl (fun t p=>t.setIfInBounds p.1 p.2) tmps,[]⟩/\(ps.foldl (fun (t:Array Value) p=>t.setIfInBounds p.1 p.2) tmps).size=nt
 | [],sl,tmps,h,hn,_=>⟨h,hn⟩
 | (t, v) :: ps, sl, tmps, h, hn, hp => by
  have h1:=h.put (d:=t) (by show t<tmps.size;rw [hn];exact hp (t,v) (by simp)) v;exact yS ps ((t,v)::sl) (tmps.setIfInBounds t v) h1 (by simpa using hn) (fun q hq=>hp q (by simp [hq]))
theorem zQ {g:Operand} {ps:Array Tmp} {EN body:Code} {first cap:List Value} (hg:Is sl g (.func (.func f) first.toArray cap.toArray)) [bQ P f]
  {As:Nat->Loop->List bh} {rest:List bh} {Φ:Nat->Loop->ι->Prop} {own:Nat->Loop->ι->List bh} {st:ι->LoopState} {pd:ι->Option Code}
  (ht:∀ l rc,bK (bA l (fX rc .ready none)::hs) (As l rc) rest) (bj:∀ x,st x≠.busy)
  (hc:∀ l rc,rc.params=ps->rc.assign=EN->rc.body=body->bW sl ⟨rc.tmps,[]⟩->rc.tmps.size=c.nt->∀ w fp,Mem c (bA l (fX rc .ready none)::hs) w->fp.Nodup->cA (hp w) (As l rc) fp->(∀ b∈fp,c.w0.heap.size<=b\/b∈c.md) ->
   bB P f (first++[Value.func (Fn.yield l) #[] #[]]++cap) w fp (Φ l rc) (fun _=>Value.tuple #[]) (fun x=>bA l (fX rc (st x) (pd x))::own l rc x))
  (kn:∀ l rc x b,Φ l rc x->pd x=none->Tr c (b::D) sl (own l rc x++rest) (Q .normal))
  (kj:∀ l rc x b j,Φ l rc x->pd x=some j->Tr c (b::D) sl (own l rc x++rest) (WP P none j Q)) :
  Tr c D sl hs (WP P none (.rangeFunc g ps EN body) Q):=fun a w hs0=>by
 refine wpIn_rangeFunc fun fn _=>?_
 let rc:Loop:={ state:=.ready,pending:=none,fn,tmps:=a.tmps,params:=ps,assign:=EN,body,defers:=w.heap.size }
 let l:=w.heap.size+1
 let w1:=(w.alloc (.deferred (some []))).alloc (.loop rc)
 have X0:fX rc .ready none=.loop rc:=rfl
 -- Bn state behind Bn record
 have aY:Mem c (bA w.heap.size (.deferred (some []))::(hs++mN D)) (w.alloc (.deferred (some []))):=hs0.mem.alloc _;have mr:Mem c (bA l (fX rc .ready none)::bA w.heap.size (.deferred (some []))::(hs++mN D)) w1:=by
  have:=aY.alloc (.loop rc);simpa [l,w1,X0] using this
 -- QW: Bn record and hs ahead,Bn new mark abQ Bn marks
 have WI:Mem c ((bA l (fX rc .ready none)::hs)++mN (w.heap.size::D)) w1:=by
  obtain ⟨k,fp,hn,⟨f1,f2,rfl,h1,⟨f3,f4,rfl,h3,h4⟩⟩,hb⟩:=mr;obtain ⟨f5,f6,rfl,h5,h6⟩:=cA.append_iff.1 h4;have iB:(f1++(f3++(f5++f6))).Perm ((f1++f5)++(f3++f6)):=by
   rw [Zh];refine List.Perm.append_left f1 ?_;rw [<- Zh,<- Zh];exact List.perm_append_comm.append_right f6
  refine ⟨k,(f1++f5)++(f3++f6),iB.nodup_iff.1 hn,cA.append_iff.2 ⟨f1++f5,f3++f6,I,⟨f1,f5,I,h1,h5⟩,⟨f3,f6,I,h3,h6⟩⟩,fun b dK=>hb b (iB.mem_iff.2 dK)⟩
 have htk:=ht l rc;obtain ⟨k4,fp,hn,gY,hb⟩:=WI.jo (htk.append (mN (w.heap.size::D)));obtain ⟨f1,f2,rfl,h1,h2⟩:=cA.append_iff.1 gY;have cG:=hc l rc I I I hs0.dh hs0.size w1 f1 WI.lD (Zx.1 hn).1 h1 (fun b dK=>hb b (ZD _ dK))
 refine ⟨l,[{ target:=.collected w.heap.size,args:=#[] }],w1,{ target:=.fn (.func f) cap.toArray,args:=first.toArray++#[.func (.yield l) #[] #[]] },w1,f,(first++[Value.func (Fn.yield l) #[] #[]]++cap).toArray,w1,run_enterLoop_outer fn a.tmps ps EN body,?_,fun _ _=>trivial,?_,by simp [FR,Fence.wide],?_⟩
 ·have:=hg a hs0.dh;simp only [resolve,rangeCall,Deferred.ofValue,this,Sem.run_bind,Sem.run_pure,Result.andThen_ok];simp [Act.eval,l]
 ·simp only [invoke];rw [tJ];simp
 ·refine (iC (r:=none) cG).mono fun e w' ⟨x,he,hx,hk,lO,uW,hs',zi⟩=>?_;subst he;obtain ⟨g1,g2,rfl,N9,rR⟩:=hs';obtain ⟨rfl,hl⟩:=N9;have xV:w'.heap[l]? = some (fX rc (st x) (pd x)):=hl;refine ⟨pd x,w'.putObj l (fX rc .exhausted (pd x)),run_endLoop (r:={ rc with state:=st x,pending:=pd x }) xV (bj x),?_⟩
  -- Bn state behind it all
  obtain ⟨n1,n2,n12⟩:=Zx.1 hn;have aN:∀ b∈f2,b<w1.heap.size:=fun b dK=>let ⟨o,ho⟩:=h2.own b dK;ko ho
  have hm5:Mem c (bA l (fX rc (st x) (pd x))::(own l rc x++(rest++mN (w.heap.size::D)))) w':=by
   refine ⟨?_,(([l]++g2)++f2),?_,?_,?_⟩
   ·refine ⟨hk.os.trans k4.os,hk.tape.trans k4.tape,hk.output.trans k4.output,ZZ k4.dr hk.dr,ZZ k4.size hk.size,fun b dK hm=>?_⟩;rw [<- k4.block b dK hm];refine hk.block b (ZaJ dK k4.size) (fun hf=>?_);rcases hb b (ZD _ hf) with h | h
    ·omega
    ·exact hm h
   ·refine Zx.2 ⟨uW,n2,fun x hx y hy e=>?_⟩;subst e;rcases zi x hx with h | h
    ·exact n12 x h x hy I
    ·have:=aN x hy;omega
   ·rw [Zh];exact ⟨[l],g2++f2,I,⟨I,hl⟩,cA.append_iff.2 ⟨g2,f2,I,rR,h2.loc fun b dK=>hk.block b (aN b dK) (fun hf=>n12 b hf b dK I)⟩⟩
   ·intro b dK;rcases Zq.1 dK with h | h
    ·rcases zi b h with h | h
     ·exact hb b (ZD _ h)
     ·exact .inl (ZZ k4.size h)
    ·exact hb b (ZM _ h)
  have hm6:Mem c ((own l rc x++rest)++mN (w.heap.size::D)) (w'.putObj l (fX rc .exhausted (pd x))):=by
   have:=(Mem.store hm5 (w':=w'.putObj l (fX rc .exhausted (pd x))) ⟨I,I,I,ZC _,by simp,fun k _ hn=>World.putObj_heap_other (by simpa using hn)⟩ (World.putObj_heap_same (ko (w:=w') xV))).wQ
   rwa [Zh]
  have GX:St c (w.heap.size::D) sl (own l rc x++rest) { a with defers:=[{ target:=.collected w.heap.size,args:=#[] }]++a.defers } (w'.putObj l (fX rc .exhausted (pd x))):=
   ⟨hm6,hs0.dh,hs0.size,by simp [hs0.defers,mark]⟩
  cases hj:pd x with
  | none=>rw [hj] at GX;exact kn l rc x w.heap.size hx hj _ _ GX
  | some j=>rw [hj] at GX;exact kj l rc x w.heap.size j hx hj _ _ GX
end
end Go.SL
namespace Go.SL
open Go
section
variable {P:Program} {c:Cx} {sl:aD} {hs:List bh} {dst:Option Tmp} {ty:TypeId} {pos:String} {af:Array Edge} {g:Option (Nat×Bool)}
theorem A3 {t e:TypeId} (hu:gJ P t (.slice e)):P.elem t=e:=by simp [Program.elem,hu.eq]
theorem pI {t e:TypeId} (hu:gJ P t (.slice e)):P.underlying t=some (.slice (P.elem t)):=by rw [A3 hu];exact hu.eq
variable {a:Option Addr} {agg:Bool} {fz:Nat×Nat} {h:Int} {k:IntKind} {n:Nat} {v:Value} {w:World} {x y:Operand}
theorem value_of {i:Sem Value} (h:i.run P w=.ok v w):(do let x <- i;pure (Next.value x):Sem Next).run P w=.ok (.value v) w:=by
 rw [Sem.run_bind,h];rfl
theorem gE {t e:TypeId} {len cap:Nat} [hu:gJ P t (.slice e)] [Ty P e agg n] (hx:Is sl x (.slice a len cap)) (hy:Is sl y (.int k h)) (h0:0<=h) (h1:h<=cap) :
  cM P c sl hs ⟨dst,.slice t x none (some y) none,ty,pos,af,g⟩ (sliced a 0 h.toNat cap n):=
 ⟨by simp,fun ac w ha _=>by
  have:=run_slice_h (P:=P) w t a len cap (pI hu) k h h0 h1;simp only [execOp,hx ac ha,hy ac ha,Option.map];refine value_of ?_;rw [run_sliceAt_slice _ _ _ _ _ _ (pI hu),this,A3 hu,fK (n:=n) (agg:=agg)]
  rfl⟩
theorem qx {t e:TypeId} {len cap:Nat} [hu:gJ P t (.slice e)] [Ty P e agg n] (hx:Is sl x (.slice a len cap)) (hy:Is sl y (.int k h)) (h0:0<=h) (h1:h<=len) :
  cM P c sl hs ⟨dst,.slice t x (some y) none none,ty,pos,af,g⟩ (sliced a h.toNat len cap n):=
 ⟨by simp,fun ac w ha _=>by
  have:=run_slice_l (P:=P) w t a len cap (pI hu) k h h0 h1;simp only [execOp,hx ac ha,hy ac ha,Option.map];refine value_of ?_;rw [run_sliceAt_slice _ _ _ _ _ _ (pI hu),this,A3 hu,fK (n:=n) (agg:=agg)]
  rfl⟩
theorem bL {t:TypeId} {b o:Nat} {cs vs:List Value} {E:TypeId} {hs':List bh} [Ty P t true n] (hx:Is sl x (.pointer (some ⟨b,o,none⟩))) (ht:Take hs (SL.bA b (.cells cs.toArray E fz)) hs') (hv:eu cs o n=vs) (hl:vs.length=n) :
  cM P c sl hs ⟨dst,.load t x,ty,pos,af,g⟩ (.agg vs.toArray):=iw hx (eO.bA ht hv) hl
theorem bH {r:Option Nat} {D:List Nat} {ops:Array Oper} {Q:Exit->Act->World->Prop} {d:Nat} {rest:List Oper} {hs' hs2:List bh} {t e:TypeId} {size bytes:Nat} {z:Value} {n b o m cp:Nat} {xs news cs:List Value} {E:TypeId} [gJ P t (.slice e)] [Ty P e agg size] [lQ P e z] [u9 P e bytes]
  (hx:Is sl x v) (hy:Is sl y (.slice (some ⟨b,o,none⟩) m cp)) (ht:Take hs (row e size v n xs) hs') (ht2:Take hs (SL.bA b (.cells cs.toArray E fz)) hs2) (hv:eu cs o (m*size)=news) (hl:news.length=m*size) (h1:∀ u∈news,u.oneCell'=true) (hz:z.cells.size=size) (hsz:Nat.blt 0 size=true) (hb0:Nat.blt 0 bytes=true)
  (hb:(n+m)*bytes<=140737488355328) (hd:Nat.blt d c.nt=true)
  (k:∀ v',Tr c D ((d,v')::sl) (row e size v' (n+m) (xs++news)::hs') (WL P r ops Q rest)) :
  Tr c D sl hs (WL P r ops Q (⟨some d,.call ⟨.builtin .append,#[x,y],#[t,t]⟩,ty,pos,af,none⟩::rest)):=
 yC hx hy ht (eO.bA ht2 hv) hl h1 hz hsz hb0 hb hd k
theorem kd {fn:Func} {t:Tmp} {T:TypeId} {b o n:Nat} {cs vs:List Value} {E:TypeId} {hs':List bh} (h:fn.results=#[.cell t T]) (hT:Ty P T true n) (hp:cW sl t=some (.pointer (some ⟨b,o,none⟩))) (ht:Take hs (SL.bA b (.cells cs.toArray E fz)) hs') (hv:eu cs o n=vs) (hl:vs.length=n):Ends P fn c sl hs (.agg vs.toArray):=
 OK h hp (eO.bA ht hv) hl
theorem DA {r:Option Nat} {D:List Nat} {ops:Array Oper} {Q:Exit->Act->World->Prop} {d:Option Tmp} {op:Op} {rest:List Oper} {j gs:Nat} {want:Bool} (hj:((ops[j]?).bind (·.dst))=some gs) (hq:cW sl gs=some (.bool want))
  (k:Tr c D sl hs (WL P r ops Q (⟨d,op,ty,pos,af,none⟩::rest))):Tr c D sl hs (WL P r ops Q (⟨d,op,ty,pos,af,some (j,want)⟩::rest)):=fun a w bj=>by
 have h:=k a w bj;unfold WL at h ⊢;rw [if_pos (by simp [Region.wanted])] at h;rw [lb (o:=⟨d,op,ty,pos,af,some (j,want)⟩) (c0:=true) I hj bj.dh (by rw [hq];rfl),if_pos (by simp)];exact h
theorem Rd.sliced {len cap sz:Nat} {xs:List (List Value)} (h:Rd w (.slice a len cap) sz xs) {l m:Nat} (hl:l<=m) (hm:m<=len):Rd w (Go.sliced a l m cap sz) sz ((xs.take m).drop l):=by
 obtain ⟨a',il,b,o,e,h1,h2,h3,h4⟩:=h;cases e;have e:((xs.take m).drop l).length=m-l:=by simp;omega
 by_cases hc:cap=l
 ·refine ⟨a,cap-l,b,o,?_,by omega,by omega,fun hn=>?_,fun i r hr=>?_⟩
  ·simp [Go.sliced,hc,e]
  ·exact absurd (Z4 (by omega)) hn
  ·have:=(Zl.1 hr).1;omega
 ·refine ⟨a.map (·.add (l*sz)),cap-l,b,o+l*sz,?_,by omega,by omega,fun hn=>?_,fun i r hr=>?_⟩
  ·simp [Go.sliced,hc,e]
  ·have hx:xs≠[]:=by intro e;subst e;simp at hn
   rw [h3 hx];by_cases e0:l*sz=0
   ·simp [Addr.add,e0]
   ·simp [Addr.add,e0]
  ·rw [Zbg,ZH] at hr;split at hr
   ·obtain ⟨q1,q2⟩:=h4 _ _ hr;refine ⟨q1,fun j u hu=>?_⟩;have:=q2 j u hu;rw [show o+l*sz+i*sz+j=o+(l+i)*sz+j by rw [Nat.add_mul];omega];exact this
   ·simp at hr
end
end Go.SL
namespace Go.Proofs
open Go Go.SL
open Tryz renaming prog->T_
instance:Qm T_:={}
instance:Ty T_ 3 false 1:={}
instance:gJ T_ 3 (.int .i64):={}
instance:lQ T_ 3 (.q 0):={}
instance:u9 T_ 3 8:={}
instance:Ty T_ 4 false 1:={}
instance:gJ T_ 4 (.bool):={}
instance:lQ T_ 4 (.bool false):={}
instance:u9 T_ 4 1:={}
instance:Ty T_ 5 false 1:={}
instance:gJ T_ 5 (.int .u8):={}
instance:Ty T_ 9 false 1:={}
instance:gJ T_ 9 (.string):={}
instance:lQ T_ 9 (.string ⟨#[]⟩):={}
instance:u9 T_ 9 16:={}
instance:Ty T_ 22 false 1:={}
instance:gJ T_ 22 (.slice 118):={}
instance:Ty T_ 23 false 1:={}
instance:gJ T_ 23 (.slice 88):={}
instance:Ty T_ 24 false 1:={}
instance:gJ T_ 24 (.slice 122):={}
instance:Ty T_ 25 false 1:={}
instance:gJ T_ 25 (.slice 180):={}
instance:Ty T_ 27 true 6:={}
instance:lQ T_ 27 (.agg #[.q 0,.q 0,.z,.z,.z,.z]):={}
instance:Bz T_ 27 [(0,1),(1,1),(2,1),(3,1),(4,1),(5,1)] [.q 0,.q 0,.z,.z,.z,.z]:={}
instance:ef T_ 27 0 0:={}
instance:ef T_ 27 1 1:={}
instance:ef T_ 27 2 2:={}
instance:ef T_ 27 3 3:={}
instance:ef T_ 27 4 4:={}
instance:ef T_ 27 5 5:={}
instance:Ty T_ 29 true 3:={}
instance:ef T_ 29 0 0:={}
instance:ef T_ 29 1 1:={}
instance:ef T_ 29 2 2:={}
instance:Ty T_ 32 false 1:={}
instance:gJ T_ 32 (.slice 9):={}
instance:lQ T_ 32 (.z):={}
instance:u9 T_ 32 24:={}
instance:Ty T_ 33 false 1:={}
instance:lQ T_ 33 (.q 0):={}
instance:Ty T_ 36 false 1:={}
instance:gJ T_ 36 (.slice 186):={}
instance:Ty T_ 37 false 1:={}
instance:gJ T_ 37 (.slice 90):={}
instance:Ty T_ 38 false 1:={}
instance:gJ T_ 38 (.slice 187):={}
instance:Ty T_ 39 false 1:={}
instance:gJ T_ 39 (.slice 188):={}
instance:Ty T_ 41 true 6:={}
instance:lQ T_ 41 (.agg #[.q 0,.q 0,.z,.z,.z,.z]):={}
instance:Bz T_ 41 [(0,1),(1,1),(2,1),(3,1),(4,1),(5,1)] [.q 0,.q 0,.z,.z,.z,.z]:={}
instance:ef T_ 41 0 0:={}
instance:ef T_ 41 1 1:={}
instance:ef T_ 41 2 2:={}
instance:ef T_ 41 3 3:={}
instance:ef T_ 41 4 4:={}
instance:ef T_ 41 5 5:={}
instance:Ty T_ 49 false 1:={}
instance:gJ T_ 49 (.slice 3):={}
instance:lQ T_ 49 (.z):={}
instance:Ty T_ 66 false 1:={}
instance:gJ T_ 66 (.slice 69):={}
instance:Ty T_ 69 true 2:={}
instance:lQ T_ 69 (.agg #[.string ⟨#[]⟩,.z]):={}
instance:u9 T_ 69 40:={}
instance:Bz T_ 69 [(0,1),(1,1)] [.string ⟨#[]⟩,.z]:={}
instance:ef T_ 69 0 0:={}
instance:ef T_ 69 1 1:={}
instance:Ty T_ 72 false 1:={}
instance:gJ T_ 72 (.slice 78):={}
instance:Ty T_ 78 true 2:={}
instance:lQ T_ 78 (.agg #[.string ⟨#[]⟩,.z]):={}
instance:u9 T_ 78 40:={}
instance:Bz T_ 78 [(0,1),(1,1)] [.string ⟨#[]⟩,.z]:={}
instance:ef T_ 78 0 0:={}
instance:ef T_ 78 1 1:={}
instance:Ty T_ 88 true 3:={}
instance:lQ T_ 88 (.agg #[.string ⟨#[]⟩,.q 0,.bool false]):={}
instance:u9 T_ 88 32:={}
instance:Bz T_ 88 [(0,1),(1,1),(2,1)] [.string ⟨#[]⟩,.q 0,.bool false]:={}
instance:ef T_ 88 0 0:={}
instance:ef T_ 88 1 1:={}
instance:ef T_ 88 2 2:={}
instance:Ty T_ 90 true 3:={}
instance:lQ T_ 90 (.agg #[.string ⟨#[]⟩,.q 0,.bool false]):={}
instance:u9 T_ 90 32:={}
instance:Bz T_ 90 [(0,1),(1,1),(2,1)] [.string ⟨#[]⟩,.q 0,.bool false]:={}
instance:ef T_ 90 0 0:={}
instance:ef T_ 90 1 1:={}
instance:ef T_ 90 2 2:={}
instance:gJ T_ 93 (.slice 105):={}
instance:gJ T_ 96 (.slice 182):={}
instance:Ty T_ 105 true 2:={}
instance:lQ T_ 105 (.agg #[.q 0,.z]):={}
instance:u9 T_ 105 32:={}
instance:ef T_ 105 0 0:={}
instance:ef T_ 105 1 1:={}
instance:gJ T_ 116 (.array 3 5):={}
instance:Ty T_ 118 true 2:={}
instance:lQ T_ 118 (.agg #[.string ⟨#[]⟩,.q 0]):={}
instance:u9 T_ 118 24:={}
instance:ef T_ 118 0 0:={}
instance:ef T_ 118 1 1:={}
instance:Ty T_ 122 true 3:={}
instance:lQ T_ 122 (.agg #[.string ⟨#[]⟩,.q 0,.q 0]):={}
instance:u9 T_ 122 32:={}
instance:ef T_ 122 0 0:={}
instance:ef T_ 122 1 1:={}
instance:ef T_ 122 2 2:={}
instance:ef T_ 125 0 0:={}
instance:ef T_ 125 1 1:={}
instance:ef T_ 125 2 2:={}
instance:ef T_ 125 3 3:={}
instance:gJ T_ 156 (.slice 32):={}
instance:Ty T_ 180 true 3:={}
instance:lQ T_ 180 (.agg #[.q 0,.string ⟨#[]⟩,.string ⟨#[]⟩]):={}
instance:u9 T_ 180 40:={}
instance:Bz T_ 180 [(0,1),(1,1),(2,1)] [.q 0,.string ⟨#[]⟩,.string ⟨#[]⟩]:={}
instance:ef T_ 180 0 0:={}
instance:ef T_ 180 1 1:={}
instance:ef T_ 180 2 2:={}
instance:Ty T_ 182 true 2:={}
instance:lQ T_ 182 (.agg #[.q 0,.z]):={}
instance:u9 T_ 182 32:={}
instance:Bz T_ 182 [(0,1),(1,1)] [.q 0,.z]:={}
instance:ef T_ 182 0 0:={}
instance:ef T_ 182 1 1:={}
instance:Ty T_ 186 true 2:={}
instance:lQ T_ 186 (.agg #[.string ⟨#[]⟩,.q 0]):={}
instance:u9 T_ 186 24:={}
instance:Bz T_ 186 [(0,1),(1,1)] [.string ⟨#[]⟩,.q 0]:={}
instance:ef T_ 186 0 0:={}
instance:ef T_ 186 1 1:={}
instance:Ty T_ 187 true 3:={}
instance:lQ T_ 187 (.agg #[.string ⟨#[]⟩,.q 0,.q 0]):={}
instance:u9 T_ 187 32:={}
instance:Bz T_ 187 [(0,1),(1,1),(2,1)] [.string ⟨#[]⟩,.q 0,.q 0]:={}
instance:ef T_ 187 0 0:={}
instance:ef T_ 187 1 1:={}
instance:ef T_ 187 2 2:={}
instance:Ty T_ 188 true 3:={}
instance:lQ T_ 188 (.agg #[.q 0,.string ⟨#[]⟩,.string ⟨#[]⟩]):={}
instance:u9 T_ 188 40:={}
instance:Bz T_ 188 [(0,1),(1,1),(2,1)] [.q 0,.string ⟨#[]⟩,.string ⟨#[]⟩]:={}
instance:ef T_ 188 0 0:={}
instance:ef T_ 188 1 1:={}
instance:ef T_ 188 2 2:={}
instance:Ty T_ 199 false 1:={}
instance:Ty T_ 220 false 1:={}
instance:lQ T_ 220 (.nilFunc):={}
instance:gJ T_ 232 (.slice 4):={}
instance:Ty T_ 244 true 2:={}
instance:lQ T_ 244 (.agg #[.z,.q 0]):={}
instance:u9 T_ 244 32:={}
instance:Bz T_ 244 [(0,1),(1,1)] [.z,.q 0]:={}
instance:ef T_ 244 0 0:={}
instance:ef T_ 244 1 1:={}
instance:Ty T_ 254 false 1:={}
instance:gJ T_ 254 (.map 9 257):={}
instance:lQ T_ 254 (.map none):={}
instance:Ty T_ 257 true 3:={}
instance:lQ T_ 257 (.agg #[.q 0,.q 0,.q 0]):={}
instance:Bz T_ 257 [(0,1),(1,1),(2,1)] [.q 0,.q 0,.q 0]:={}
instance:ef T_ 257 0 0:={}
instance:FTy T_ 257 0 0 3:={}
instance:ef T_ 257 1 1:={}
instance:ef T_ 257 2 2:={}
instance:Ty T_ 264 true 2:={}
instance:Bz T_ 264 [(0,1),(1,1)] [.string ⟨#[]⟩,.nilFunc]:={}
instance:ef T_ 264 0 0:={}
instance:Ty T_ 265 true 10:={}
instance:gJ T_ 265 (.array 5 264):={}
instance:lQ T_ 265 (.agg #[.string ⟨#[]⟩,.nilFunc,.string ⟨#[]⟩,.nilFunc,.string ⟨#[]⟩,.nilFunc,.string ⟨#[]⟩,.nilFunc,.string ⟨#[]⟩,.nilFunc]):={}
instance:Bz T_ 265 [(0,2),(2,2),(4,2),(6,2),(8,2)] [.string ⟨#[]⟩,.nilFunc,.string ⟨#[]⟩,.nilFunc,.string ⟨#[]⟩,.nilFunc,.string ⟨#[]⟩,.nilFunc,.string ⟨#[]⟩,.nilFunc]:={}
instance:gJ T_ 287 (.slice 33):={}
instance:Ty T_ 299 true 2:={}
instance:gJ T_ 299 (.array 2 3):={}
instance:lQ T_ 299 (.agg #[.q 0,.q 0]):={}
instance:Bz T_ 299 [(0,1),(1,1)] [.q 0,.q 0]:={}
instance:gJ T_ 318 (.int .u64):={}
instance:Ty T_ 329 false 1:={}
instance:gJ T_ 329 (.slice 244):={}
instance:lQ T_ 329 (.z):={}
instance:Bl T_ 88 [9,3,4]:={}
instance:Bl T_ 118 [9,3]:={}
instance:Bl T_ 122 [9,3,3]:={}
instance:Bl T_ 180 [3,9,9]:={}
instance:Bl T_ 188 [3,9,9]:={}
instance:Bl T_ 299 [3,3]:={}
instance:bQ T_ 17:={}
instance:bQ T_ 18:={}
instance:bQ T_ 19:={}
instance:bQ T_ 20:={}
instance:bQ T_ 21:={}
instance:bQ T_ 22:={}
instance:bQ T_ 23:={}
instance:bQ T_ 24:={}
instance:bQ T_ 25:={}
instance:bQ T_ 26:={}
instance:bQ T_ 27:={}
instance:bQ T_ 28:={}
instance:bQ T_ 29:={}
instance:bQ T_ 30:={}
instance:bQ T_ 31:={}
instance:bQ T_ 32:={}
instance:bQ T_ 33:={}
instance:bQ T_ 34:={}
instance:bQ T_ 35:={}
instance:bQ T_ 36:={}
instance:bQ T_ 37:={}
instance:bQ T_ 38:={}
instance:bQ T_ 39:={}
instance:bQ T_ 40:={}
instance:bQ T_ 41:={}
instance:bQ T_ 42:={}
instance:bQ T_ 43:={}
instance:bQ T_ 44:={}
instance:bQ T_ 45:={}
instance:bQ T_ 46:={}
instance:bQ T_ 47:={}
instance:bQ T_ 48:={}
instance:bQ T_ 49:={}
instance:bQ T_ 50:={}
instance:bQ T_ 51:={}
instance:bQ T_ 52:={}
instance:bQ T_ 53:={}
instance:bQ T_ 54:={}
instance:bQ T_ 55:={}
instance:bQ T_ 56:={}
instance:bQ T_ 57:={}
instance:bQ T_ 58:={}
instance:bQ T_ 59:={}
instance:bQ T_ 60:={}
instance:bQ T_ 61:={}
instance:bQ T_ 62:={}
instance:bQ T_ 63:={}
instance:bQ T_ 64:={}
instance:bQ T_ 65:={}
instance:bQ T_ 66:={}
instance:bQ T_ 67:={}
instance:bQ T_ 68:={}
instance:bQ T_ 69:={}
instance:bQ T_ 70:={}
instance:bQ T_ 71:={}
instance:bQ T_ 72:={}
instance:bQ T_ 73:={}
instance:bQ T_ 74:={}
instance:bQ T_ 75:={}
instance:bQ T_ 76:={}
instance:bQ T_ 77:={}
instance:bQ T_ 78:={}
instance:bQ T_ 79:={}
instance:bQ T_ 80:={}
instance:bQ T_ 81:={}
instance:bQ T_ 82:={}
instance:bQ T_ 83:={}
instance:bQ T_ 84:={}
instance:bQ T_ 85:={}
instance:bQ T_ 105:={}
instance:bQ T_ 106:={}
instance:bQ T_ 107:={}
instance:bQ T_ 108:={}
instance:bQ T_ 109:={}
instance:bQ T_ 110:={}
instance:bQ T_ 111:={}
instance:bQ T_ 112:={}
instance:bQ T_ 113:={}
instance:bQ T_ 114:={}
instance:bQ T_ 115:={}
instance:bQ T_ 116:={}
instance:bQ T_ 117:={}
instance:bQ T_ 118:={}
instance:bQ T_ 119:={}
instance:bQ T_ 120:={}
instance:bQ T_ 121:={}
instance:bQ T_ 122:={}
instance:bQ T_ 123:={}
instance:bQ T_ 124:={}
instance:bQ T_ 125:={}
instance:bQ T_ 126:={}
instance:bQ T_ 127:={}
instance:bQ T_ 128:={}
instance:bQ T_ 129:={}
instance:bQ T_ 130:={}
instance:bQ T_ 131:={}
instance:bQ T_ 132:={}
instance:bQ T_ 133:={}
instance:bQ T_ 134:={}
instance:bQ T_ 135:={}
instance:bQ T_ 136:={}
instance:bQ T_ 137:={}
instance:bQ T_ 138:={}
instance:bQ T_ 139:={}
instance:bQ T_ 140:={}
instance:bQ T_ 141:={}
instance:bQ T_ 142:={}
instance:bQ T_ 143:={}
instance:bQ T_ 144:={}
instance:bQ T_ 145:={}
instance:bQ T_ 146:={}
instance:bQ T_ 147:={}
instance:bQ T_ 148:={}
instance:bQ T_ 149:={}
instance:bQ T_ 150:={}
instance:bQ T_ 151:={}
instance:bQ T_ 152:={}
instance:bQ T_ 153:={}
instance:bQ T_ 154:={}
instance:bQ T_ 155:={}
instance:bQ T_ 156:={}
instance:bQ T_ 157:={}
instance:bQ T_ 158:={}
instance:bQ T_ 159:={}
instance:bQ T_ 160:={}
instance:bQ T_ 161:={}
instance:bQ T_ 162:={}
instance:bQ T_ 163:={}
instance:bQ T_ 164:={}
instance:bQ T_ 165:={}
instance:bQ T_ 166:={}
instance:bQ T_ 167:={}
instance:bQ T_ 168:={}
instance:bQ T_ 169:={}
instance:bQ T_ 170:={}
instance:bQ T_ 171:={}
instance:bQ T_ 172:={}
instance:bQ T_ 173:={}
instance:bQ T_ 174:={}
instance:bQ T_ 175:={}
instance:bQ T_ 176:={}
instance:bQ T_ 177:={}
instance:bQ T_ 178:={}
instance:bQ T_ 179:={}
instance:bQ T_ 180:={}
instance:bQ T_ 181:={}
instance:bQ T_ 182:={}
instance:bQ T_ 183:={}
instance:bQ T_ 184:={}
instance:bQ T_ 185:={}
instance:bQ T_ 186:={}
instance:bQ T_ 187:={}
instance:bQ T_ 188:={}
instance:bQ T_ 189:={}
instance:bQ T_ 190:={}
instance:bQ T_ 191:={}
instance:bQ T_ 192:={}
instance:bQ T_ 193:={}
instance:bQ T_ 221:={}
instance:bQ T_ 222:={}
instance:bQ T_ 223:={}
instance:bQ T_ 224:={}
instance:bQ T_ 225:={}
instance:bQ T_ 226:={}
instance:bQ T_ 227:={}
instance:bQ T_ 228:={}
instance:bQ T_ 229:={}
instance:bQ T_ 230:={}
instance:bQ T_ 231:={}
instance:bQ T_ 232:={}
instance:bQ T_ 233:={}
instance:bQ T_ 234:={}
instance:bQ T_ 235:={}
instance:bQ T_ 236:={}
instance:bQ T_ 237:={}
instance:bQ T_ 238:={}
instance:bQ T_ 239:={}
instance:bQ T_ 240:={}
instance:bQ T_ 241:={}
instance:bQ T_ 242:={}
instance:bQ T_ 243:={}
instance:bQ T_ 246:={}
instance:bQ T_ 247:={}
instance:bQ T_ 248:={}
instance:bQ T_ 249:={}
instance:bQ T_ 250:={}
instance:bQ T_ 251:={}
instance:bQ T_ 252:={}
instance:bQ T_ 253:={}
instance:bQ T_ 254:={}
instance:bQ T_ 255:={}
instance:bQ T_ 256:={}
instance:bQ T_ 257:={}
instance:bQ T_ 258:={}
instance:bQ T_ 259:={}
instance:bQ T_ 260:={}
instance:bQ T_ 262:={}
instance:bQ T_ 263:={}
instance:bQ T_ 264:={}
instance:bQ T_ 265:={}
instance:bQ T_ 266:={}
instance:bQ T_ 267:={}
instance:bQ T_ 268:={}
instance:bQ T_ 269:={}
instance:bQ T_ 270:={}
instance:bQ T_ 278:={}
instance:bQ T_ 279:={}
instance:bQ T_ 297:={}
instance:bQ T_ 298:={}
instance:bQ T_ 299:={}
instance:bQ T_ 300:={}
instance:bQ T_ 301:={}
instance:bQ T_ 302:={}
instance:bQ T_ 314:={}
instance:bQ T_ 315:={}
instance:bQ T_ 316:={}
instance:bQ T_ 317:={}
instance:bQ T_ 319:={}
instance:bQ T_ 323:={}
instance:bQ T_ 324:={}
instance:bQ T_ 342:={}
end Go.Proofs
namespace Go.SL
open Go
theorem aH.over {md fp:List Nat} {a b c:World} (h:aH md a b) (hf:∀ x∈fp,x∈md\/a.heap.size<=x) (k:aH fp b c):aH md a c:=
 ⟨k.os.trans h.os,k.tape.trans h.tape,k.output.trans h.output,ZZ h.dr k.dr,ZZ h.size k.size,fun i hi hm=>by
  rw [<- h.block i hi hm];exact k.block i (ZaJ hi h.size) (fun hx=>by
   rcases hf i hx with h1 | h1
   ·exact hm h1
   ·omega)⟩
def Out (md:List Nat) (v:Value) (xs:List (List Value)):Prop:=xs≠[]->∀ b,v.ownBlock=some b->b ∉ md
theorem Out.nil (v:Value) (xs:List (List Value)):Out [] v xs:=fun _ _ _ h=>by cases h
variable {sz:Nat} {v:Value} {xs:List (List Value)}
theorem Rd.jE {md:List Nat} {w w':World} (h:Rd w v sz xs) (hn:Out md v xs) (hk:aH md w w'):Rd w' v sz xs:=by
 obtain ⟨a,cap,b,o,rfl,h2,Hb,h3,h4⟩:=h;refine ⟨a,cap,b,o,I,h2,Hb,h3,fun i r hr=>⟨(h4 i r hr).1,fun j u hu=>?_⟩⟩;have:=(h4 i r hr).2 j u hu;have hb:=World.block_lt_of_cell? w _ this;have hne:xs≠[]:=by rintro rfl;simp at hr
 rw [<- this];simp only [World.cell?];rw [hk.block b hb (hn hne b (by rw [h3 hne];rfl))]
theorem Rd.out {md fp:List Nat} {w0:World} (h:Rd w0 v sz xs) (hsz:0<sz) (hn:Out md v xs) (hF:∀ b∈fp,b∈md\/w0.heap.size<=b):Out fp v xs:=fun hne b hb Dl=>by
 obtain ⟨a,cap,b',o,rfl,h2,Hb,h3,h4⟩:=h;have ha:=h3 hne;subst ha;have:b'=b:=by simpa [Value.ownBlock] using hb
 subst this;obtain ⟨r,rs,rfl⟩:=List.exists_cons_of_ne_nil hne;obtain ⟨hl,hc⟩:=h4 0 r rfl;obtain ⟨u,us,rfl⟩:=List.exists_cons_of_ne_nil (l:=r) (by rintro rfl;simp at hl;omega);have aN:=World.block_lt_of_cell? w0 _ (hc 0 u I);rcases hF b' Dl with h | h
 ·exact hn hne b' hb h
 ·exact absurd aN (by simp;omega)
theorem eO.C1 {c:Cx} {hs:List bh} {b o:Nat} {vs:List Value} (h:∀ (j:Nat) (u:Value),vs[j]? = some u->c.w0.cell? ⟨b,o+j,none⟩=some u) (G2:b ∉ c.md):eO c hs b o vs:=
 eO.vK fun j v hv=>At.C1 (h j v hv) G2
def Bh (P:Program) (l:Nat) (args:List Value) (w0:World) (md:List Nat) (pre:bh) (post:Bool->bh):Prop:=
 ∀ W fp, aH md w0 W -> (∀ b ∈ fp, b ∈ md \/ w0.heap.size <= b) -> fp.Nodup -> pre.sat (hp W) fp -> ∃ f tmps EN body, (Instr.yield l args.toArray).run P W = .ok (.round l f tmps EN body) W /\
  RoundIn (FR none) 0 P l f tmps EN body W (px fp W post)
def Iter (P:Program) (f:FuncId) (first cap:List Value) (own:List bh) (items:List (List Value)) (w0:World) (md:List Nat) (w:World):Prop:=
 ∀ (l : Nat) (fp : List Nat) (J : Nat -> bh) (E : bh), aH md w0 w -> (∀ b ∈ fp, b ∈ md \/ w0.heap.size <= b) -> fp.Nodup -> cA (hp w) (J 0 :: own) fp ->
  (∀ k vs,items[k]? = some vs->Bh P l vs w0 md (J k) (fun b=>bif b then J (k+1) else E)) ->
  bB P f (first++[.func (.yield l) #[] #[]]++cap) w fp (fun _:Bool=>True) (fun _=>.tuple #[]) (fun b=>(bif b then J items.length else E)::own)
section
variable {P:Program} {r:Option Nat} {c:Cx} {D:List Nat} {sl:aD} {hs hs':List bh} {Q:Exit->Act->World->Prop} {ι κ:Type}
variable {ops:Array Oper} {d:Nat} {ty:TypeId} {pos:String} {af:Array Edge} {rest:List Oper}
variable {A:ι->List bh} {B:κ->List bh} {W:World} {fp:List Nat} {k l:Nat} {md:List Nat} {nt:Nat} {p:Option Code} {pd:κ->Code} {post:Bool->bh} {rc:Loop} {s:LoopState} {vs:List Value} {w0:World} {Ψ:κ->Prop}
theorem yw {x:Operand} {xs:List Operand} {ts:Array TypeId} {pre:bh} (hB:aH md w0 c.w0) (hF:∀ b∈c.md,b∈md\/w0.heap.size<=b) (hy:Bh P l vs w0 md pre post)
  (hx:Is sl x (.func (.yield l) #[] #[])) (ha:Ht sl xs vs) (hd:Nat.blt d c.nt=true) (ht:Take hs pre hs')
  (k:∀ b,Tr c D ((d,.bool b)::sl) (post b::hs') (WL P r ops Q rest)):Tr c D sl hs (WL P r ops Q (⟨some d,.call ⟨.value x,xs.toArray,ts⟩,ty,pos,af,none⟩::rest)):=fun a w bj=>by
 have hm:=bj.mem.take (ht.append _);obtain ⟨kk,fp,hn,⟨f1,f2,rfl,h1,h2⟩,hb⟩:=hm;obtain ⟨f,tmps,EN,body,ij,R1⟩:=hy w f1 (hB.over hF kk) (fun b dK=>by
  rcases hb b (ZD _ dK) with h | h
  ·exact .inr (ZZ hB.size h)
  ·exact hF b h) (Zx.1 hn).1 h1
 refine mB I ⟨eb _ _ _ _ _,?_⟩;rw [Oper.semAt_eq _ _ _ (by simp)];have:(execOp a.eval ⟨some d,.call ⟨.value x,xs.toArray,ts⟩,ty,pos,af,none⟩).run P w=.ok (.round l f tmps EN body) w:=by
  simp only [execOp,resolve,hx a bj.dh,Deferred.ofValue,Sem.run_bind,Sem.run_pure,Result.andThen_ok,invoke,List.map_toArray,ha.map bj.dh];simpa using ij
 rw [this];refine ⟨by simp [FR,Fence.wide],(GC R1).mono fun e w' ⟨b,he,hk,lO,uW,hs1,zi⟩=>?_⟩;subst he;refine k b _ _ ((bj.put (by simpa [Z1] using hd) (.bool b)).heap ?_);obtain ⟨n1,n2,n12⟩:=Zx.1 hn;have aN:∀ b∈f2,b<w.heap.size:=fun b dK=>let ⟨o,ho⟩:=h2.own b dK;ko ho
 refine ⟨?_,lO++f2,?_,⟨lO,f2,I,hs1,h2.loc fun b dK=>?_⟩,?_⟩
 ·refine ⟨hk.os.trans kk.os,hk.tape.trans kk.tape,hk.output.trans kk.output,ZZ kk.dr hk.dr,ZZ kk.size hk.size,fun b dK hm=>?_⟩;rw [<- kk.block b dK hm];refine hk.block b (ZaJ dK kk.size) (fun hf=>?_);rcases hb b (ZD _ hf) with h | h
  ·omega
  ·exact hm h
 ·refine Zx.2 ⟨uW,n2,fun x hx y hy e=>?_⟩;subst e;rcases zi x hx with h | h
  ·exact n12 x h x hy I
  ·have:=aN x hy;omega
 ·exact hk.block b (aN b dK) (fun hf=>n12 b hf b dK I)
 ·intro b dK;rcases Zq.1 dK with h | h
  ·rcases zi b h with h | h
   ·exact hb b (ZD _ h)
   ·exact .inl (ZZ kk.size h)
  ·exact hb b (ZM _ h)
theorem Dr {Φ:ι->Prop} {Xd:aD} (ss:bW Xd ⟨rc.tmps,[]⟩) (hn:rc.tmps.size=nt) (hlen:vs.length=rc.params.size) (hps:∀ t∈rc.params.toList,t<nt)
  (h:∀ x W fp,aH md w0 W->(∀ b∈fp,b∈md\/w0.heap.size<=b)->Φ x->Tr ⟨W,fp,nt⟩ [] (ml (rc.params.toList.zip vs) Xd) (bA l (fX rc .ready none)::A x) (WP P (some l) rc.assign (Exit.then (EU P l rc.body (px fp W post)) (fun _ _ _=>False)))) :
  Bh P l vs w0 md (OI Φ fun x=>bA l (fX rc .ready none)::A x) post:=by
 rintro W fp hB hF jX ⟨x,hx,gY⟩;have jS:Mem ⟨W,fp,nt⟩ (bA l (fX rc .ready none)::A x) W:=⟨.refl _ _,fp,jX,gY,fun b hb=>.inr hb⟩
 have hb:W.heap[l]? = some (fX rc .ready none):=jS.bA .here;have hy:=run_yield (P:=P) (w:=W) (l:=l) (r:={ rc with state:=.ready,pending:=none }) (args:=vs.toArray) hb (by simpa using hlen)
 refine ⟨_,_,_,_,hy,?_⟩;refine roundIn_of_wpIn trivial ?_;obtain ⟨g1,g2⟩:=yS (rc.params.toList.zip vs) Xd rc.tmps ss hn (fun p hp=>hps p.1 (by
  obtain ⟨t,v⟩:=p;exact (List.of_mem_zip hp).1))
 have U6:((rc.params.zip vs.toArray).foldl (fun tmps (x:Nat×Value)=>tmps.setIfInBounds x.1 x.2) rc.tmps)=(rc.params.toList.zip vs).foldl (fun (t:Array Value) p=>t.setIfInBounds p.1 p.2) rc.tmps:=by
  rw [<- Array.foldl_toList];simp
 have:=h x W fp hB hF hx ⟨(rc.params.toList.zip vs).foldl (fun (t:Array Value) p=>t.setIfInBounds p.1 p.2) rc.tmps,[]⟩ W ⟨by simpa [mN] using jS,g1,g2,I⟩
 rw [<- U6] at this;exact this
def qb (l:Nat) (rc:Loop) (Φ:Nat->ι->Prop) (A:ι->List bh) (Ψ:κ->Prop) (B:κ->List bh) (pd:κ->Code) (k:Nat) (b:Bool):bh:=
 bif b then OI (Φ k) (fun x=>bA l (fX rc .ready none)::A x) else OI Ψ (fun y=>bA l (fX rc .done (some (pd y)))::B y)
theorem jn {g:Operand} {ps:List Tmp} {EN body:Code} {f:FuncId} {first cap:List Value} [bQ P f] (hg:Is sl g (.func (.func f) first.toArray cap.toArray))
  (own:List bh) (items:List (List Value)) (hit:∀ w,Mem c hs w->Iter P f first cap own items c.w0 c.md w)
  (Φ:Nat->ι->Prop) (A:ι->List bh) (Ψ:κ->Prop) (B:κ->List bh) (pd:κ->Code) (x0:ι) {rst:List bh} (h0:Φ 0 x0) (ht:bK hs (A x0++own) rst)
  (hlen:∀ vs∈items,vs.length=ps.length) (hps:∀ t∈ps,t<c.nt)
  (round:∀ l rc W fp k x vs,rc.tmps.size=c.nt->items[k]? = some vs->Φ k x->aH c.md c.w0 W->(∀ b∈fp,b∈c.md\/c.w0.heap.size<=b) ->
   Tr ⟨W,fp,c.nt⟩ [] (ml (ps.zip vs) sl) (bA l (fX rc .ready none)::A x) (WP P (some l) EN (Exit.then (EU P l body (px fp W (qb l rc Φ A Ψ B pd (k+1)))) (fun _ _ _=>False))))
  (kn:∀ x D,Φ items.length x->Tr c D sl (A x++own++rst) (Q .normal))
  (kj:∀ y D,Ψ y->Tr c D sl (B y++own++rst) (WP P none (pd y) Q)) :
  Tr c D sl hs (WP P none (.rangeFunc g ps.toArray EN body) Q):=by
 refine zQ (ι:=ι ⊕ κ) hg (As:=fun l rc=>bA l (fX rc .ready none)::(A x0++own)) (rest:=rst)
  (Φ:=fun l rc x=>match x with | .inl x=>Φ items.length x | .inr y=>Ψ y) (own:=fun l rc x=>match x with | .inl x=>A x++own | .inr y=>B y++own)
  (st:=fun x=>match x with | .inl _=>.ready | .inr _=>.done) (pd:=fun x=>match x with | .inl _=>none | .inr y=>some (pd y)) ?_ ?_ ?_ ?_ ?_
 ·exact fun l rc=>bK.h1 ht
 ·rintro (x | y) <;> simp
 ·intro l rc R6 ha W1 ss hsz w fp hm hn hs1 G5;have YN:∀ b∈fp,b∈c.md\/c.w0.heap.size<=b:=fun b hb=>(G5 b hb).symm
  have hs2:cA (hp w) (OI (Φ 0) (fun x=>bA l (fX rc .ready none)::A x)::own) fp:=by
   rw [<- Zb] at hs1;obtain ⟨f1,f2,rfl,h1,h2⟩:=cA.append_iff.1 hs1;exact ⟨f1,f2,I,⟨x0,h0,h1⟩,h2⟩
  refine (hit w hm.wQ l fp (fun k=>OI (Φ k) (fun x=>bA l (fX rc .ready none)::A x)) (OI Ψ (fun y=>bA l (fX rc .done (some (pd y)))::B y)) hm.keeps YN hn hs2 ?_).mono ?_
  ·intro k vs hk;refine Dr (post:=qb l rc Φ A Ψ B pd (k+1)) ss hsz (by rw [R6];simpa using hlen vs (ZV hk)) (by rw [R6];simpa using hps) ?_;intro x W VD hB hF hx;have:=round l rc W VD k x vs hsz hk hx hB hF;rw [ha,W1,R6];simpa using this
  ·rintro e w' ⟨b,he,_,hk,lO,uW,hs',zi⟩;obtain ⟨f1,f2,rfl,h1,h2⟩:=hs';cases b with
   | true =>
    obtain ⟨x,hx,h1⟩:=h1;exact ⟨.inl x,he,hx,hk,f1++f2,uW,by
     show cA _ (bA l (fX rc .ready none)::(A x++own)) _;rw [<- Zb];exact cA.append_iff.2 ⟨f1,f2,I,h1,h2⟩,zi⟩
   | false =>
    obtain ⟨y,hy,h1⟩:=h1;exact ⟨.inr y,he,hy,hk,f1++f2,uW,by
     show cA _ (bA l (fX rc .done (some (pd y)))::(B y++own)) _;rw [<- Zb];exact cA.append_iff.2 ⟨f1,f2,I,h1,h2⟩,zi⟩
 ·rintro l rc (x | y) b hx R7
  ·exact kn x (b::D) hx
  ·simp at R7
 ·rintro l rc (x | y) b j hx R7
  ·simp at R7
  ·simp only [Option.some.injEq] at R7;subst R7;exact kj y (b::D) hx
def zB (c:Cx) (Φ:ι->Prop) (sI:ι->aD) (hI:ι->List bh) (μ:ι->Nat) (i:ι):Act->World->Prop:=fun a w=>∃ D j,Φ j/\μ j<μ i/\St c D (sI j) (hI j) a w
def xq (c:Cx) (Φ:ι->Prop) (sI:ι->aD) (hI:ι->List bh):Act->World->Prop:=fun a w=>∃ D i,Φ i/\St c D (sI i) (hI i) a w
theorem E2 {x:Code} (Φ:ι->Prop) (sI:ι->aD) (hI:ι->List bh) (μ:ι->Nat)
  (h0:Tr c D sl hs (xq c Φ sI hI))
  (round:∀ i,Φ i->∀ D,Tr c D (sI i) (hI i) (WP P r x (Exit.then (zB c Φ sI hI μ i) Q))) :
  Tr c D sl hs (WP P r (.loop x) Q):=fun a w bj=>by
 let fits:Act->World->Nat->Prop:=fun a w n=>∃ D i,Φ i/\μ i=n/\St c D (sI i) (hI i) a w
 have least:∀ a w,(∃ n,fits a w n)->∃ n,fits a w n/\∀ m,fits a w m->n<=m:=by
  intro a w ⟨n,hn⟩
  induction n using Nat.strongRecOn with
  | _ n ih =>
   by_cases h:∃ m,m<n/\fits a w m
   ·obtain ⟨m,hm,hf⟩:=h;exact ih m hm hf
   ·exact ⟨n,hn,fun m hm=>ZaV fun aN=>h ⟨m,aN,hm⟩⟩
 let M:Act->World->Nat:=fun a w=>Classical.epsilon fun n=>fits a w n/\∀ m,fits a w m->n<=m
 have hM:∀ a w,(∃ n,fits a w n)->fits a w (M a w)/\∀ m,fits a w m->M a w<=m:=fun a w h=>Classical.epsilon_spec (least a w h)
 refine wpIn_loop (fun a w=>∃ n,fits a w n) M ?_ ?_
 ·obtain ⟨D,i,hi,hs⟩:=h0 a w bj;exact ⟨μ i,D,i,hi,I,hs⟩
 ·intro a w hI;obtain ⟨⟨D,i,hi,hm,hs⟩,_⟩:=hM a w hI;refine wpIn_mono (round i hi D a w hs) fun e a' w' h=>?_;cases e with
  | normal =>
   obtain ⟨D',j,hj,aN,hs'⟩:=h;have hf:fits a' w' (μ j):=⟨D',j,hj,I,hs'⟩;exact ⟨⟨_,hf⟩,Nat.lt_of_le_of_lt ((hM a' w' ⟨_,hf⟩).2 _ hf) (by rw [<- hm];exact aN)⟩
  | _=>exact h
theorem BG {Φ:ι->Prop} {sI:ι->aD} {hI:ι->List bh} {μ:ι->Nat} {i:ι} (j:ι) {rest:List bh} (hΦ:Φ j) (hμ:μ j<μ i) (hs1:lH sl (sI j)) (ht:bK hs (hI j) rest):Tr c D sl hs (zB c Φ sI hI μ i):=
 fun a w bj=>⟨D,j,hΦ,hμ,bj.weaken hs1 ht⟩
theorem yx {Φ:ι->Prop} {sI:ι->aD} {hI:ι->List bh} (j:ι) {rest:List bh} (hΦ:Φ j) (hs1:lH sl (sI j)) (ht:bK hs (hI j) rest):Tr c D sl hs (xq c Φ sI hI):=
 fun a w bj=>⟨D,j,hΦ,bj.weaken hs1 ht⟩
theorem lU {Φ:Nat->ι->Prop} (x:ι) {rst Nk:List bh}
  (ht:Take hs (bA l (fX rc s p)) rst) (hx:Φ k x) (h2:bK rst (A x) Nk):Tr ⟨W,fp,nt⟩ D sl hs (roundPost P l (px fp W (qb l rc Φ A Ψ B pd k)) .normal):=
 Gs (c:=⟨W,fp,nt⟩) (post:=qb l rc Φ A Ψ B pd k) x I ht hx (bK.h1 h2)
theorem MQ {Φ:Nat->ι->Prop} (y:κ) {rst Nk:List bh}
  (R7:pd y=.ret) (ht:Take hs (bA l (fX rc s p)) rst) (hy:Ψ y) (h2:bK rst (B y) Nk):Tr ⟨W,fp,nt⟩ D sl hs (roundPost P l (px fp W (qb l rc Φ A Ψ B pd k)) .ret):=by
 refine Gr (c:=⟨W,fp,nt⟩) (post:=qb l rc Φ A Ψ B pd k) (Φ:=Ψ) (A:=fun y=>bA l (fX rc .done (some (pd y)))::B y) y (rest:=Nk) I ht hy ?_;rw [R7];exact bK.h1 h2
end
end Go.SL
namespace Go.SL
open Go
theorem uw {α:Type} {zs:List α} {n i:Nat} (h0:0<zs.length) (hi:i<n*zs.length):(List.replicate n zs).flatten[i]? = zs[i % zs.length]?:=by
 induction n generalizing i with
 | zero=>omega
 | succ n ih =>
  rw [List.replicate_succ,ZaD,List.getElem?_append];split
  ·rw [Nat.mod_eq_of_lt (by assumption)]
  ·rw [ih (by rw [Zaj] at hi;omega),Nat.mod_eq_sub_mod (a:=i) (by omega)]
theorem vP {z:Array Value} {n:Nat} (h0:0<z.size):(madeCells z (n*z.size))=(List.replicate n z.toList).flatten.toArray:=by
 apply Array.ext';apply Zat;intro i;rw [ZaG];by_cases hi:i<n*z.size
 ·have:=uw (zs:=z.toList) (n:=n) (i:=i) (by simpa using h0) (by simpa using hi);rw [this];simp [madeCells,hi,Nat.mod_lt _ h0]
 ·rw [Zbw (by simp [size_madeCells];omega),Zaa (by simp;omega)]
section
variable {P:Program} {c:Cx} {sl:aD} {hs:List bh} {dst:Option Tmp} {ty:TypeId} {pos:String} {af:Array Edge} {g:Option (Nat×Bool)}
theorem Nq {t e:TypeId} {agg:Bool} {size bytes l cp:Nat} {z:Value} {x y:Operand} {kx ky:IntKind} [hu:gJ P t (.slice e)] [hT:Ty P e agg size] [hZ:lQ P e z] [hB:u9 P e bytes]
  (hx:Is sl x (.int kx l)) (hy:Is sl y (.int ky cp)) (hl:l<=cp) (hb:bytes*cp<=281474976710656) (hz:z.cells.size=size) (hsz:Nat.blt 0 size=true) (h63:cp<=9223372036854775807) :
  pt P c sl hs ⟨dst,.makeSlice t x y,ty,pos,af,g⟩ (fun b=>.w b l cp) (.cells (List.replicate cp z.cells.toList).flatten.toArray e (0,0)):=
 ⟨by simp,fun a w ha _=>by
  obtain ⟨de,i,lp,hi,_,iP⟩:=Ty.parts (P:=P) (t:=e) (agg:=agg) (n:=size);have hzero:i.zero=some z:=by have:=hZ.eq;rw [hi] at this;simpa using this
  have gZ:i.bytes=bytes:=by have:=hB.eq;rw [hi] at this;simpa using this
  have hs0:0<size:=by simpa [Z1] using hsz
  have:=run_make (P:=P) w t e i z hu.eq hi hzero kx ky l cp (by omega) (by omega) (by rw [gZ];omega) (by omega);have e1:=vP (z:=z.cells) (n:=cp) (by omega);rw [hz] at e1;simp only [execOp,hx a ha,hy a ha];refine (by rw [Sem.run_bind,this];simp only [Zy,iP,e1];rfl)⟩
end
end Go.SL
namespace Go.SL
open Go
def tG (n:Nat) (f:Nat->List Value):List Value:=((List.range n).map f).flatten
variable {f:Nat->List Value}
theorem iu {n sz:Nat} (hf:∀ i,i<n->(f i).length=sz):(tG n f).length=n*sz:=by
 unfold tG
 induction n with
 | zero=>simp
 | succ n ih =>
  rw [Zbc,Zz,Zab,Zg,ih (fun i h=>hf i (by omega))]
  simp [hf n (by omega),Zaj]
theorem zV {n sz i j:Nat} (hf:∀ i,i<n->(f i).length=sz) (hi:i<n) (hj:j<sz):(tG n f)[i*sz+j]? = (f i)[j]?:=by
 have hl:=hf i hi;obtain ⟨u,hu⟩:∃ u,(f i)[j]? = some u:=⟨(f i)[j]'(by omega),Zc (by omega)⟩;rw [hu];exact o5 _ i (fun r hr=>by obtain ⟨k,hk,rfl⟩:=Zw.1 hr;exact hf k (ZU.1 hk)) (by simp [hi]) hu
theorem mH {n:Nat} {f g:Nat->List Value} (h:∀ i,i<n->f i=g i):tG n f=tG n g:=by
 unfold tG;congr 1;exact Zbs fun i hi=>h i (ZU.1 hi)
theorem iH:∀ (vs cs:List Value) (o k:Nat),o+vs.length<=cs.length->(setCells cs o vs)[k]? = if o<=k/\k<o+vs.length then vs[k-o]? else cs[k]?
 | [], cs, o, k, _ => by
  rw [if_neg (by simp only [Zan];omega)];rfl
 | v :: vs, cs, o, k, h => by
  simp only [ZL] at h ⊢;rw [setCells,iH vs _ (o+1) k (by simp;omega)];by_cases h1:o+1<=k/\k<o+1+vs.length
  ·rw [if_pos h1,if_pos (by omega),show k-o=(k-(o+1))+1 by omega,Zba]
  ·rw [if_neg h1];by_cases h2:k=o
   ·subst h2;rw [if_pos (by omega),Nat.sub_self,Zaz,List.getElem?_set_self (by omega)]
   ·rw [if_neg (by omega),List.getElem?_set_ne (by omega)]
theorem Gz {n sz k:Nat} (h:k<n*sz):k / sz<n/\k % sz<sz/\k=k / sz*sz+k % sz:=by
 have hs:0<sz:=by
  rcases Nat.eq_zero_or_pos sz with h0 | h0
  ·subst h0;simp at h
  ·exact h0
 refine ⟨Nat.div_lt_of_lt_mul (by rwa [Nat.mul_comm]),Nat.mod_lt _ hs,?_⟩;have:=Nat.div_add_mod k sz;rw [Nat.mul_comm] at this;exact this.symm
theorem MZ {n sz i o:Nat} {vs:List Value} (hf:∀ i,i<n->(f i).length=sz) (hi:i<n) (ho:o+vs.length<=sz) :
  setCells (tG n f) (i*sz+o) vs=tG n (fun k=>if k=i then setCells (f i) o vs else f k):=by
 have hm:(i+1)*sz<=n*sz:=Z9 _ hi;rw [Zaj] at hm;have hg:∀ k,k<n->((fun k=>if k=i then setCells (f i) o vs else f k) k).length=sz:=fun k hk=>by
  show (if k=i then _ else _:List Value).length=sz
  split
  ·rw [kD,hf i hi]
  ·exact hf k hk
 have UZ:=iu hf;have FJ:=iu hg;apply Zat;intro k;rw [iH _ _ _ _ (by rw [UZ];omega)];by_cases hk:k<n*sz
 ·obtain ⟨h1,h2,h3⟩:=Gz hk;rw [h3,zV hg h1 h2,zV hf h1 h2];by_cases e:k / sz=i
  ·rw [e];simp only [if_true];rw [iH _ _ _ _ (by rw [hf i hi];omega)];by_cases h4:o<=k % sz/\k % sz<o+vs.length
   ·rw [if_pos h4,if_pos (by omega),show i*sz+k % sz-(i*sz+o)=k % sz-o by omega]
   ·rw [if_neg h4,if_neg (by omega)]
  ·rw [if_neg]
   ·simp only [if_neg e]
   ·intro ⟨h4,h5⟩;rcases Nat.lt_or_gt_of_ne e with e | e
    ·have:(k / sz+1)*sz<=i*sz:=Z9 _ e;rw [Zaj] at this;omega
    ·have:(i+1)*sz<=k / sz*sz:=Z9 _ e;rw [Zaj] at this;omega
 ·rw [if_neg (by omega),Zaa (by omega),Zaa (by omega)]
theorem DH (n:Nat) (f:Nat->List Value):tG n f=((List.range n).map f).flatten:=rfl
theorem At.pj {c:Cx} {hs hs':List bh} {b o:Nat} {cs:List Value} {E:TypeId} {fz:Nat×Nat} {v:Value} (ht:Take hs (SL.bA b (.cells cs.toArray E fz)) hs') (hv:cs[o]? = some v):At c hs b o v:=
 At.bA ht (by simpa using hv)
section
variable {P:Program} {c:Cx} {sl:aD} {hs hs':List bh}
theorem tl {fn:Func} {t u:Tmp} {T:TypeId} {b o n:Nat} {cs vs:List Value} {E:TypeId} {fz:Nat×Nat} {y:Value} (h:fn.results=#[.cell t T,.tmp u]) (hT:Ty P T true n) (hp:cW sl t=some (.pointer (some ⟨b,o,none⟩))) (ht:Take hs (SL.bA b (.cells cs.toArray E fz)) hs') (hv:eu cs o n=vs) (hl:vs.length=n) (hy:cW sl u=some y):Ends P fn c sl hs (.tuple #[.agg vs.toArray,y]):=
 P8 (xs:=[.cell t T,.tmp u]) (vs:=[.agg vs.toArray,y]) h (HC.cons (RV.cell hp (Kc (eO.bA ht hv) hl)) (HC.cons (RV.tmp hy) HC.nil)) (by simp)
variable {dst:Option Tmp} {ty:TypeId} {pos:String} {af:Array Edge} {g:Option (Nat×Bool)}
theorem bD {t e:TypeId} {agg:Bool} {n size:Nat} {z:Value} {xs:List (Nat×Operand)} {ps:List (Nat×Value)} {zs cs:List Value} {places:List (Nat×Nat)} [hu:gJ P t (.slice e)] [hT:Ty P e agg size] [hZ:lQ P e z] (hp:xo sl xs ps)
  (hn:Nat.ble (n*size) 1000=true) (X6:Nat.blt 0 (n*size)=true) (Bq:(List.range n).map (fun i=>(i*size,size))=places) (hzs:(List.range (n*size)).map (fun i=>z.cells[i % z.cells.size]!)=zs) (hf:ub places zs ps=some cs) :
  pt P c sl hs ⟨dst,.buildSlice t n xs.toArray,ty,pos,af,g⟩ (fun b=>.w b n n) (.cells cs.toArray e):=
 j9 (ps:=ps.toArray) (fun a ha=>by have:=hp.map ha;rw [List.map_toArray,this]) (fun w=>by
  have uW:n*size<=1000:=by simpa using hn
  have l5:0<n*size:=by simpa [Z1] using X6
  unfold Instr.buildSlice;simp only [Sem.run_bind,aW hu.eq,Result.andThen_ok,fK (t:=e) (agg:=agg) (n:=size)];rw [if_neg (by omega),if_neg (by omega)];simp only [Sem.run_bind,iI (t:=e) (v:=z),Result.andThen_ok,Sem.run_pure];have h1:(Array.range (n*size)).map (fun i=>z.cells[i % z.cells.size]!)=zs.toArray:=by
   rw [<- hzs];apply Array.ext';simp
  have h2:=fill_eq (places:=places) (f:=fun i=>if i<n then some (i*size,size) else none) (fun i x hx=>by
   subst Bq;simp only [ZJ,Zak] at hx;obtain ⟨k,hk,rfl⟩:=hx;obtain ⟨aN,hk⟩:=Zl.1 hk;simp only [Zby] at hk;subst hk;simp only [Zar] at aN;simp [aN]) ps zs cs hf
  have h3:Instr.fill (fun i=>some (i*size,size)) zs.toArray ps=some cs.toArray:=by
   have key:∀ (l:List (Nat×Value)) (cc:Array Value) (r:Array Value),Instr.fill (fun i=>if i<n then some (i*size,size) else none) cc l=some r->Instr.fill (fun i=>some (i*size,size)) cc l=some r:=by
    intro l
    induction l with
    | nil=>intro cc r h;exact h
    | cons x l ih =>
     obtain ⟨i,v⟩:=x;intro cc r h;simp only [Instr.fill] at h ⊢;by_cases hi:i<n
     ·rw [if_pos hi] at h;simp only at h;split at h
      ·cases h
      ·rename_i hc;rw [if_neg hc];exact ih _ _ h
     ·rw [if_neg hi] at h;cases h
   exact key ps zs.toArray cs.toArray h2
  rw [h1,h3];simp [newRow])
theorem aT {D:List Nat} {X:Act->World->Prop} {E:TypeId} {sz n:Nat} {v:Value} {xs:List Value} (ht:Take hs (row E sz v n xs) hs') (k:∀ a cap,v=.slice a n cap->Tr c D sl hs X):Tr c D sl hs X:=fun a w bj=>by
 obtain ⟨_,fp,_,⟨f1,f2,_,h1,_⟩,_⟩:=bj.rG.take ht;obtain ⟨_,_,⟨rfl,rfl⟩ | ⟨g,cap,cur,rfl,_⟩⟩:=h1
 ·exact k _ _ I a w bj
 ·exact k _ _ I a w bj
end
end Go.SL
namespace Go.SL
open Go
def NP (Q:Exit->Act->World->Prop):Exit->Act->World->Prop
 | .panic _=>fun _ _=>False
 | e=>Q e
theorem Oper.vb {F:Fence} {n:Nat} {P:Program} {o:Oper} {a:Act} {w:World} {K K':Act->World->Prop} {Q Q':Exit->Act->World->Prop} (h:∀ a w,K a w->K' a w) (hq:∀ c a w,Q (.panic c) a w->Q' (.panic c) a w) (hl:LetsOut Q->LetsOut Q')
  (hh:o.wpIn F n P a w K Q):o.wpIn F n P a w K' Q':=by
 unfold Oper.wpIn at *;refine ⟨hh.1,?_⟩;have hh:=hh.2;generalize (o.semAt F.round a.eval).run P w=r at *;cases r with
 | ok x w' =>
  cases x <;> simp only [Oper.uponIn] at hh ⊢ <;>
   first
    | exact h _ _ hh
    | exact ⟨hh.1,CallsIn.mono hh.2 (fun e vf he=>by cases e <;> first | exact h _ _ he | exact hq _ _ _ he | exact hl he | exact he)⟩
    | exact ⟨hh.1,RowsIn.mono hh.2 (fun _ _ he=>h _ _ he)⟩
    | exact ⟨hh.1,RoundIn.mono hh.2 (fun e vf he=>by cases e <;> first | exact h _ _ he | exact hq _ _ _ he | exact hl he | exact he)⟩
 | halt x w'=>cases x <;> simp only [Oper.uponIn] at hh ⊢ <;> first | exact hh | exact hq _ _ _ hh
section
variable {P:Program} {r:Option Nat} {c:Cx} {D:List Nat} {sl:aD} {hs hs':List bh} {Q:Exit->Act->World->Prop} {ops:Array Oper} {fuel i:Nat} {listed:Array Bool}
def Left (P:Program) (ops:Array Oper) (Q:Exit->Act->World->Prop) (fuel:Nat) (listed:Array Bool):Act->World->Prop:=wpAnyIn (FR none) 0 P .any ops (NP Q) fuel listed
theorem MT {id:Nat} {l:List Oper} (n:Nat) [qd:Qm P] (hn:l.length=n) (k:Tr c D sl hs (Left P l.toArray Q n (Array.replicate n false))):Tr c D sl hs (WP P none (.region id l.toArray true) Q):=fun a w bj=>by
 subst hn;have h:(Code.region id l.toArray true).wpIn (FR none) 0 P (NP Q) a w:=wpIn_region_any qd.eq (by
  have:=k a w.drew (bj.heap bj.mem.drew);simpa [Left] using this)
 exact wpIn_mono h fun e a' w' h=>by
  cases e with
  | panic c=>exact h.elim
  | _=>exact h
theorem eZ (i:Nat) {d:Nat} {op:Op} {ty:TypeId} {pos:String} {af:Array Edge} {V:Value} (hi:ops[i]? = some ⟨some d,op,ty,pos,af,none⟩) (hs1:Region.noSelect ops=true) (hf:Region.free .any ops listed i=true) (hr:(Region.ready .any ops listed).contains i=true)
  (PQ:∀ (w:World) (ρ:Operand->Value),Oper.about P w ρ ⟨some d,op,ty,pos,af,none⟩=none) (hv:∀ w,cM P ⟨w,[],0⟩ sl [] ⟨some d,op,ty,pos,af,none⟩ V) (hd:Nat.blt d c.nt=true)
  (k:Tr c D ((d,V)::sl) hs (Left P ops Q fuel (listed.setIfInBounds i true))):Tr c D sl hs (Left P ops Q (fuel+1) listed):=fun a w bj=>by
 refine wpAnyIn_take (oi:=⟨some d,op,ty,pos,af,none⟩) I hi hs1 hf hr (fun c a w h=>h) (v:=V) ⟨.inl ⟨by simp [Region.wanted],fun w'=>?_⟩,fun w'=>PQ w' _⟩ (k _ _ (bj.put (by simpa [Z1] using hd) V));exact (hv w').2 a w' bj.dh ⟨.refl _ _,[],Zah,I,by simp⟩
def Next (P:Program) (c:Cx) (D:List Nat) (sl:aD) (hs:List bh) (ops:Array Oper) (Q:Exit->Act->World->Prop) (fuel:Nat) (listed:Array Bool) (i:Nat):Prop:=
 ∀ a w,St c D sl hs a w->wpOpIn (FR none) 0 P ops (NP Q) i (Left P ops Q fuel (listed.setIfInBounds i true)) a w
theorem cI {rs:List Nat} (hr:Region.ready .any ops listed=rs) (hne:rs≠[]) (h:∀ i∈rs,Next P c D sl hs ops Q fuel listed i):Tr c D sl hs (Left P ops Q (fuel+1) listed):=fun a w bj=>
 wpAnyIn_all hr hne fun i hi=>h i hi a w bj
theorem cQ {d:Option Tmp} {op:Op} {ty:TypeId} {pos:String} {af:Array Edge} {g:Option (Nat×Bool)} (hi:ops[i]? = some ⟨d,op,ty,pos,af,g⟩) (h:Tr c D sl hs (WL P none ops (Exit.then (Left P ops Q fuel (listed.setIfInBounds i true)) (NP Q)) [⟨d,op,ty,pos,af,g⟩])):Next P c D sl hs ops Q fuel listed i:=fun a w bj=>by
 have h1:=h a w bj;unfold wpOpIn;simp only [hi];unfold WL at h1;split
 ·rename_i hw;rw [if_pos hw] at h1;exact Oper.vb (fun a w h=>h) (fun c a w h=>h) (fun h=>h) h1
 ·rename_i hw;rw [if_neg hw] at h1;exact ⟨fun _ _=>trivial,h1⟩
theorem cn (hr:Region.ready .any ops listed=[]) (k:Tr c D sl hs (Q .normal)):Tr c D sl hs (Left P ops Q fuel listed):=fun a w bj=>
 wpAnyIn_done (Q:=NP Q) hr (k a w bj) fuel
theorem HT {x:Code} (h:Tr c D sl hs (WP P none x (Exit.noGoto Q))):Tr c D sl hs (WP P none (.scope x) Q):=fun a w bj=>
 (wpIn_wide (n:=0)).2 (wp_scope_straight ((wpIn_wide (n:=0)).1 (h a w bj)))
theorem sG (h:Tr c D sl hs (Q .ret)):Tr c D sl hs (Exit.noGoto Q .ret):=h
theorem HX {l:Nat} {r:Option Nat} (h:Tr c D sl hs (Q .normal)):Tr c D sl hs (WP P r (.label l) Q):=fun a w bj=>wpIn_label (h a w bj)
variable {dst:Option Tmp} {ty:TypeId} {pos:String} {af:Array Edge} {g:Option (Nat×Bool)}
theorem gN {t u e:TypeId} {x y:Operand} {a:Option Addr} {n cp n' TC:Nat} [hu:gJ P t (.slice e)] (hx:Is sl x (.slice a n cp)) (hy:Is sl y (.slice none n' TC)):cM P c sl hs ⟨dst,.binOp .eql t x y u,ty,pos,af,g⟩ (.bool a.isNone):=
 gX hx hy fun w=>by
  have h1:(eqGuard .eql t x y (.slice a n cp) (.slice none n' TC)).run P w=.ok () w:=by simp [eqGuard]
  rw [Sem.run_bind,h1,Result.andThen_ok];exact Go.Lib.run_eql_slice_nil w t e a n cp n' TC hu.eq
end
end Go.SL
namespace Go.SL
open Go
class BP (b:Bool) (p q:outParam Prop):Prop where
 t:b=true->p
 f:b=false->q
instance (priority:=low) {b:Bool}:BP b (b=true) (b=false):=⟨id,id⟩
instance {p:Prop} {inst:Decidable p}:BP (@decide p inst) p (¬ p):=⟨of_decide_eq_true,of_decide_eq_false⟩
instance {a:Bool} {p q:Prop} [h:BP a p q]:BP (!a) q p:=⟨fun e=>h.f (by simpa using e),fun e=>h.t (by simpa using e)⟩
instance {a b:Bool} {p q p' q':Prop} [h:BP a p q] [h':BP b p' q']:BP (a||b) (p\/p') (q/\q'):=
 ⟨fun e=>(ZP _ _ ▸ e).elim (fun e=>.inl (h.t e)) (fun e=>.inr (h'.t e)),fun e=>by
  rw [Bool.or_eq_false_iff] at e;exact ⟨h.f e.1,h'.f e.2⟩⟩
instance {a b:Bool} {p q p' q':Prop} [h:BP a p q] [h':BP b p' q']:BP (a&&b) (p/\p') (q\/q'):=
 ⟨fun e=>by
  rw [Zm] at e;exact ⟨h.t e.1,h'.t e.2⟩,fun e=>(Bool.and_eq_false_iff.1 e).elim (fun e=>.inl (h.f e)) (fun e=>.inr (h'.f e))⟩
instance {a:Bool} {p q:Prop} [h:BP a p q]:BP (a==true) p q:=⟨fun e=>h.t (by simpa using e),fun e=>h.f (by simpa using e)⟩
instance {a:Bool} {p q:Prop} [h:BP a p q]:BP (a==false) q p:=⟨fun e=>h.f (by simpa using e),fun e=>h.t (by simpa using e)⟩
theorem eS:∀ u∈([]:List Value),u.oneCell'=true:=fun _ h=>absurd h Zo
theorem aU {v:Value} {vs:List Value} (h:v.oneCell'=true) (t:∀ u∈vs,u.oneCell'=true):∀ u∈v::vs,u.oneCell'=true:=Zt.2 ⟨h,t⟩
theorem Ug {n:Int} (h:-9223372036854775808<=n/\n<=9223372036854775807):Wj n:=h
theorem bF {a b:Nat} (h:Nat.ble a b=true):a<=b:=Zax h
theorem an {α:Type} {a b:α} (h:a=b:=by (first | (simp only [Int.toNat_zero,Int.toNat_one,Int.reduceToNat,ub,setCells,eu,partOf,Value.cells,uq,cond_true,cond_false,Zaz,Zba,List.set_cons_zero,List.set_cons_succ,Zbm,ZL,Zan,Nat.reduceAdd,Nat.reduceMul,Nat.reduceLeDiff,and_self,and_true,true_and,if_true,List.set,List.length_set,ZC,ZE,Zay];exact I) | exact I)):a=b:=h
theorem ae {α:Type} {a b:α} (h:a=b:=by (first | (simp only [Nat.reduceAdd,ZE,Zay];exact I) | exact I)):a=b:=h
theorem bu {α:Type} {a b:α} (h:a=b:=by (first | (simp only [Zy,ZE,Int.reduceToNat,Int.toNat_zero,Int.toNat_one];exact I) | exact I)):a=b:=h
theorem gF {α:Type} {a b:α} (h:a=b:=by first | ((try simp only [Za,ZQ,Zb]);exact I) | exact I):a=b:=h
theorem bV {α:Type} {a b:α} (h:a=b:=by first | (simp only [List.range,List.range.loop,List.map,Nat.reduceMul];exact I) | exact I):a=b:=h
theorem eC {a b:Nat} (h:a<=b:=by first | omega | (simp only [Zg,ZL,Zan];omega)):a<=b:=h
theorem mz {α:Type} {a b:α} (h:a=b:=by kernel_rfl):a=b:=h
section
variable {P:Program} {r:Option Nat} {c:Cx} {D:List Nat} {sl:aD} {rl:eX} {hs hs':List bh} {Q:Exit->Act->World->Prop} {ops:Array Oper} {m d:Nat} {dst:Option Tmp} {op:Op} {ty:TypeId} {pos:String} {af:Array Edge} {rest:List Oper}
theorem BH {t:TypeId} (hd:Nat.blt d c.nt=true) (k:∀ b,c.w0.heap.size<=b->Tr c D ((d,.map (some b))::sl) (mp (fun s:ByteArray=>Value.string s) b []::hs) (WL P r ops Q rest)) :
  Tr c D sl hs (WL P r ops Q (⟨some d,.makeMap t none,ty,pos,af,none⟩::rest)):=Dz (fun s:ByteArray=>Value.string s) hd k
variable {V:Value} {p p':Prop} {q want:Bool}
theorem cK {j g:Nat} (hj:((ops[j]?).bind (·.dst))=some g) (hq:cW sl g=some (.bool q)) (hn:(q==want)=false) (hd:Nat.blt d c.nt=true) (k:Tr c D ((d,gv (q==want) (.bool false))::sl) hs (WL P r ops Q rest)) :
  Tr c D sl hs (WL P r ops Q (⟨some d,op,ty,pos,af,some (j,want)⟩::rest)):=vh hj hq (fun e=>absurd (hn.symm.trans e) (by decide)) hd k
theorem H2 {x:Operand} {b:Bool} {p q:Prop} {u v:Code} (hx:Is sl x (.bool b)) (hb:BP b p q)
  (ht:p->Tr c D sl hs (WP P r u Q)) (hf:q->Tr c D sl hs (WP P r v Q)):Tr c D sl hs (WP P r (.cond x u v) Q):=
 E4 hx (fun e=>ht (hb.t e)) (fun e=>hf (hb.f e))
theorem iO {j g:Nat} {want c0 q:Bool} (hj:((ops[j]?).bind (·.dst))=some g) (hq:cW sl g=some (gv c0 (.bool q))) [hb:BP (c0&&(q==want)) p p']
  (hr:(c0&&(q==want))=true->p->cM P c sl hs ⟨some d,op,ty,pos,af,some (j,want)⟩ V) (hd:Nat.blt d c.nt=true) (k:Tr c D ((d,gv (c0&&(q==want)) V)::sl) hs (WL P r ops Q rest)) :
  Tr c D sl hs (WL P r ops Q (⟨some d,op,ty,pos,af,some (j,want)⟩::rest)):=E0 hj hq (fun e=>hr e (hb.t e)) hd k
theorem au {j g:Nat} (hj:((ops[j]?).bind (·.dst))=some g) (hq:cW sl g=some (.bool q)) [hb:BP (q==want) p p']
  (hr:(q==want)=true->p->cM P c sl hs ⟨some d,op,ty,pos,af,some (j,want)⟩ V) (hd:Nat.blt d c.nt=true) (k:Tr c D ((d,gv (q==want) V)::sl) hs (WL P r ops Q rest)) :
  Tr c D sl hs (WL P r ops Q (⟨some d,op,ty,pos,af,some (j,want)⟩::rest)):=vh hj hq (fun e=>hr e (hb.t e)) hd k
theorem qU {j gs:Nat} {want c0 q:Bool} (hj:((ops[j]?).bind (·.dst))=some gs) (hq:cW sl gs=some (gv c0 (.bool q))) [hb:BP (c0&&(q==want)) p p']
  (hr:(c0&&(q==want))=true->p->cM P c sl hs ⟨some d,op,ty,pos,af,some (j,want)⟩ V) (hd:Nat.blt d c.nt=true) (k:im P r c D hs ops Q m rest ((d,gv (c0&&(q==want)) V)::sl) rl) :
  im P r c D hs ops Q (m+1) (⟨some d,op,ty,pos,af,some (j,want)⟩::rest) sl rl:=C5 hj hq (fun e=>hr e (hb.t e)) hd k
theorem dT {j gs:Nat} (hj:((ops[j]?).bind (·.dst))=some gs) (hq:cW sl gs=some (.bool q)) [hb:BP (q==want) p p']
  (hr:(q==want)=true->p->cM P c sl hs ⟨some d,op,ty,pos,af,some (j,want)⟩ V) (hd:Nat.blt d c.nt=true) (k:im P r c D hs ops Q m rest ((d,gv (q==want) V)::sl) rl) :
  im P r c D hs ops Q (m+1) (⟨some d,op,ty,pos,af,some (j,want)⟩::rest) sl rl:=Hr hj hq (fun e=>hr e (hb.t e)) hd k
end
theorem F2 {P:Program} {c:Cx} {sl:aD} {hs:List bh} {fn:Func} {t:Tmp} {T:TypeId} {b o n:Nat} {v:Value} (h:fn.results=#[.cell t T]) (hT:Ty P T false n) (hp:cW sl t=some (.pointer (some ⟨b,o,none⟩))) (hv:At c hs b o v):Ends P fn c sl hs v:=SJ h hp hv
section
variable {P:Program} {r:Option Nat} {c:Cx} {D:List Nat} {sl:aD} {rl:eX} {hs hs':List bh} {Q:Exit->Act->World->Prop} {ops:Array Oper} {m d:Nat} {op:Op} {ty:TypeId} {pos:String} {af:Array Edge} {rest:List Oper}
variable {N:Act->World->Prop} {id:Nat} {l:List Oper} {v:Value} {x:Operand} {y:Code}
theorem s_r (h:Tr c D sl hs (WL P r l.toArray (Exit.then (WP P r y Q) Q) l)):Tr c D sl hs (WP P r (.seq (.region id l.toArray false) y) Q):=Dy (sF h)
theorem n_t (h:Tr c D sl hs N):Tr c D sl hs (WL P r ops (Exit.then N Q) []):=h
theorem n_r {Q':Exit->Act->World->Prop} (h:Tr c D sl hs (WL P r l.toArray (Exit.then (WP P r y Q) Q) l)):Tr c D sl hs (WL P r ops (Exit.then (WP P r (.seq (.region id l.toArray false) y) Q) Q') []):=Dy (sF h)
theorem s_t (h:Tr c D sl hs N):Tr c D sl hs (WP P r .skip (Exit.then N Q)):=E1 h
theorem x_t (h:Tr c D sl hs (Q (.exit id))):Tr c D sl hs (WP P r (.exit id) (Exit.then N Q)):=MU h
theorem r_t (h:Tr c D sl hs (Q .ret)):Tr c D sl hs (WP P r .ret (Exit.then N Q)):=HU h
theorem Pv (hx:ev sl x=some v) (hd:Nat.blt d c.nt=true) (k:Tr c D ((d,v)::sl) hs (WL P r ops Q rest)):Tr c D sl hs (WL P r ops Q (⟨some d,.move x,ty,pos,af,none⟩::rest)):=ab (aL (.of hx)) hd k
theorem a_s (hx:ev sl x=some v) (hd:Nat.blt d c.nt=true) (k:Tr c D ((d,v)::sl) hs (WL P r ops Q rest)):Tr c D sl hs (WL P r ops Q (⟨some d,.assign x,ty,pos,af,none⟩::rest)):=ab (cd (.of hx)) hd k
theorem mZ (hx:ev sl x=some v) (hd:Nat.blt d c.nt=true) (k:im P r c D hs ops Q m rest ((d,v)::sl) rl):im P r c D hs ops Q (m+1) (⟨some d,.move x,ty,pos,af,none⟩::rest) sl rl:=aM (aL (.of hx)) hd k
theorem bN {t:TypeId} {i o:Nat} {b k q:Nat} [ef P t i o] (hx:ev sl x=some (.pointer (some ⟨b,k,none⟩))) (hd:Nat.blt d c.nt=true) (he:k+o=q) (h:Tr c D ((d,.pointer (some ⟨b,q,none⟩))::sl) hs (WL P r ops Q rest)) :
  Tr c D sl hs (WL P r ops Q (⟨some d,.fieldAddr t x i,ty,pos,af,none⟩::rest)):=ab (ai (.of hx) he) hd h
theorem pZ {t:TypeId} {i o:Nat} {b k q:Nat} [ef P t i o] (hx:ev sl x=some (.pointer (some ⟨b,k,none⟩))) (hd:Nat.blt d c.nt=true) (he:k+o=q) (h:im P r c D hs ops Q m rest ((d,.pointer (some ⟨b,q,none⟩))::sl) rl) :
  im P r c D hs ops Q (m+1) (⟨some d,.fieldAddr t x i,ty,pos,af,none⟩::rest) sl rl:=aM (ai (.of hx) he) hd h
theorem gy {j g:Nat} {want q:Bool} (hj:((ops[j]?).bind (·.dst))=some g) (hq:cW sl g=some (.bool q)) (hx:ev sl x=some v) (hd:Nat.blt d c.nt=true) (k:Tr c D ((d,gv (q==want) v)::sl) hs (WL P r ops Q rest)) :
  Tr c D sl hs (WL P r ops Q (⟨some d,.move x,ty,pos,af,some (j,want)⟩::rest)):=vh hj hq (fun _=>aL (.of hx)) hd k
theorem gR {p:Prop} {inst:Decidable p} {u v:Code} (hx:ev sl x=some (.bool (decide p))) (ht:p->Tr c D sl hs (WP P r u Q)) (hf:¬ p->Tr c D sl hs (WP P r v Q)):Tr c D sl hs (WP P r (.cond x u v) Q):=Gu (.of hx) ht hf
theorem oq {b:Bool} {p q:Prop} {u v:Code} (hx:ev sl x=some (.bool b)) [hb:BP b p q] (ht:p->Tr c D sl hs (WP P r u Q)) (hf:q->Tr c D sl hs (WP P r v Q)):Tr c D sl hs (WP P r (.cond x u v) Q):=H2 (.of hx) hb ht hf
end
end Go.SL
