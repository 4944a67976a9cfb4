/- Parts of the proof: GkRow GkLoop GkRange GkSlice K1Ty GkSeq GkMake GkTab GkAnyL GkFin. -/
import Derived.Test.YteonnodafmegaaaGreatDoorNM02
import Derived.Laws.AppendOwn
import Derived.Laws.RangeAny
import Derived.Laws.Slices
import Derived.Test.YteonnodafmegaaaGreatDoorProg
import Derived.Laws.MakeOwn
import Derived.Scope
import Derived.Lib.SliceRun
set_option linter.unusedSectionVars false
set_option linter.unusedVariables false
set_option linter.unusedSimpArgs false
namespace Go.SL
open Go
def Rd (w:World) (v:Value) (sz:Nat) (xs:List (List Value)):Prop:=
 ∃ a cap b o,v=.slice a xs.length cap∧xs.length≤cap∧cap≤maxLen∧(xs≠[]→a=some ⟨b,o,none⟩)∧∀ i r,xs[i]? = some r→r.length=sz∧∀ j u,r[j]? = some u→w.cell? ⟨b,o+i*sz+j,none⟩=some u
theorem Rd.keeps {w w':World} {v:Value} {sz:Nat} {xs:List (List Value)} (h:Rd w v sz xs) (hk:aH [] w w'):Rd w' v sz xs:=by
 obtain ⟨a,cap,b,o,h1,h2,GL,h3,h4⟩:=h
 refine ⟨a,cap,b,o,h1,h2,GL,h3,fun i r hr=>⟨(h4 i r hr).1,fun j u hu=>?_⟩⟩
 have:=(h4 i r hr).2 j u hu
 have hb:=World.block_lt_of_cell? w _ this
 rw [← this]
 simp only [World.cell?]
 rw [hk.block b hb (by simp)]
theorem Rd.nil (w:World) (sz:Nat):Rd w (.slice none 0 0) sz []:=⟨none,0,0,0,rfl,Zz _,by unfold maxLen;omega,fun h=>absurd rfl h,fun i r h=>by simp at h⟩
theorem rd1 {w:World} {b o i:Nat} {xs:List (List Value)} {u:Value} (h:∀ i r,xs[i]? = some r→r.length=1∧∀ j u,r[j]? = some u→w.cell? ⟨b,o+i*1+j,none⟩=some u) (hr:xs[i]? = some [u]):w.cell? ⟨b,o+i*1,none⟩=some u:=(h i _ hr).2 0 u rfl
theorem Mem.dh {c:Cx} {hs hs':List a8} {w:World} (hm:Mem c hs w) {b:Nat} {cs:List Value} {E:TypeId} {fz:Nat×Nat} (ht:Take hs (SL.bG b (.cells cs.toArray E fz)) hs') {n:Nat} (hn:cs.length=n) (hle:Nat.ble n 1000=true):Rd w (.slice (some ⟨b,0,none⟩) n n) 1 (cs.map fun v=>[v]):=by
 subst hn
 have NG:cs.length≤1000:=by simpa using hle
 refine ⟨_,cs.length,b,0,by simp,by simp,by unfold maxLen;omega,fun _=>rfl,fun i r hr=>?_⟩
 rw [ZD,Zah] at hr
 obtain ⟨v,hv,rfl⟩:=hr
 refine ⟨rfl,fun j u hu=>?_⟩
 cases j with
 | zero =>
  simp only [Zax,Option.some.injEq] at hu
  subst hu
  rw [cell_of_block (hm.bG ht)]
  simpa using hv
 | succ j=>simp at hu
def row (E:TypeId) (sz:Nat) (v:Value) (n:Nat) (xs:List Value):a8 where
 sat h fp:=fp=v.ownBlock.toList∧xs.length=n*sz∧((v=.slice none 0 0∧n=0) ∨
  ∃ g cap cur,v=.slice (some ⟨g,0,none⟩) n cap∧h g=some (.cells cur E (0,0))∧n≤cap∧cap≤maxLen∧cur.size=cap*sz∧cur.toList.take (n*sz)=xs)
 loc:=by
  rintro h h' fp ⟨e,hl,h1⟩ hb
  refine ⟨e,hl,h1.imp id ?_⟩
  rintro ⟨g,cap,cur,rfl,hg,r⟩
  exact ⟨g,cap,cur,rfl,by rw [hb g (by rw [e];simp [Value.ownBlock])];exact hg,r⟩
 own:=by
  rintro h fp ⟨e,hl,h1⟩ b hb
  rcases h1 with ⟨rfl,_⟩ | ⟨g,cap,cur,rfl,hg,_⟩
  ·rw [e] at hb;simp [Value.ownBlock] at hb
  ·rw [e] at hb;simp [Value.ownBlock] at hb;subst hb;exact ⟨_,hg⟩
theorem Bi {w:World} {E:TypeId} {sz:Nat} {v:Value} {n:Nat} {xs:List Value} {fp:List Nat} (h:(row E sz v n xs).sat (hp w) fp):w.ownsRow 0 E sz v n xs:=by
 obtain ⟨_,hl,h1⟩:=h
 exact ⟨hl,h1.imp id fun ⟨g,cap,cur,e,hg,r⟩=>⟨g,cap,cur,e,Zi _,hg,r⟩⟩
theorem lN {w:World} {E:TypeId} {sz:Nat} {v:Value} {n:Nat} {xs:List Value} (h:w.ownsRow 0 E sz v n xs):(row E sz v n xs).sat (hp w) v.ownBlock.toList:=by
 obtain ⟨hl,h1⟩:=h
 exact ⟨rfl,hl,h1.imp id fun ⟨g,cap,cur,e,_,hg,r⟩=>⟨g,cap,cur,e,hg,r⟩⟩
theorem Mem.Qp {c:Cx} {hs:List a8} {w:World} (hm:Mem c hs w) (E:TypeId) (sz:Nat):Mem c (row E sz (.slice none 0 0) 0 []::hs) w:=
 Mem.change (As:=[]) (Bs:=[row E sz (.slice none 0 0) 0 []]) hm fun fp _ hf=>by
  rw [show fp=[] from hf]
  exact ⟨.refl _ _,[],Zam,⟨[],[],rfl,⟨rfl,by simp,.inl ⟨rfl,rfl⟩⟩,rfl⟩,by simp⟩
theorem aP {c:Cx} {D:List Nat} {sl:aG} {hs:List a8} {X:Act→World→Prop} (E:TypeId) (sz:Nat) (k:Tr c D sl (row E sz (.slice none 0 0) 0 []::hs) X):Tr c D sl hs X:=fun a w bb=>
 k a w (bb.heap (bb.mem.Qp E sz))
theorem oF {sz j:Nat} {r:List Value} {u:Value}:∀ (xs:List (List Value)) (i:Nat),(∀ r∈xs,r.length=sz)→xs[i]? = some r→r[j]? = some u→xs.flatten[i*sz+j]? = some u
 | [],i,_,hr,_=>by simp at hr
 | x :: xs, 0, hx, hr, hu => by
  simp at hr;subst hr
  rw [ZaB,ZI (by rw [Zbu,ZB];exact (Zl.1 hu).1),Zbu,ZB]
  exact hu
 | x :: xs, i + 1, hx, hr, hu => by
  have OZ:=hx x (by simp)
  rw [ZaB,ZN (by rw [OZ,Zag];omega),OZ,Zag,show i*sz+sz+j-sz=i*sz+j from by omega]
  exact oF xs i (fun r Uq=>hx r (by simp [Uq])) (by simpa using hr) hu
theorem Qo {w:World} {E:TypeId} {sz:Nat} {v:Value} {n:Nat} {xs:List (List Value)} {fp:List Nat} (hx:∀ r∈xs,r.length=sz) (hn:xs.length=n) (h:(row E sz v n xs.flatten).sat (hp w) fp):Rd w v sz xs:=by
 subst hn
 obtain ⟨_,hl,h1⟩:=h
 rcases h1 with ⟨rfl,hn⟩ | ⟨g,cap,cur,rfl,hg,c7,hm,hsz,dY⟩
 ·have:xs=[]:=Zan.1 hn
  subst this
  exact Rd.nil w sz
 ·refine ⟨_,cap,g,0,rfl,c7,hm,fun _=>rfl,fun i r hr=>⟨hx r (ZW hr),fun j u hu=>?_⟩⟩
  have UT:w.heap[g]? = some (.cells cur E (0,0)):=hg
  rw [cell_of_block UT]
  have XA:=hx r (ZW hr)
  have hi:i<xs.length:=(Zl.1 hr).1
  have hj:j<sz:=by rw [← XA];exact (Zl.1 hu).1
  have Pa:xs.flatten[i*sz+j]? = some u:=oF xs i hx hr hu
  have aK:i*sz+j<xs.length*sz:=by
   have:(i+1)*sz≤xs.length*sz:=Z9 _ hi
   rw [Zag] at this
   omega
  rw [← dY,ZC,if_pos aK] at Pa
  simpa using Pa
theorem Mem.n9 {c:Cx} {hs hs':List a8} {w:World} (hm:Mem c hs w) {E:TypeId} {sz:Nat} {v:Value} {n:Nat} {ys:List Value} {xs:List (List Value)} (ht:Take hs (row E sz v n ys) hs') (he:ys=xs.flatten) (hx:∀ r∈xs,r.length=sz) (hn:xs.length=n):Rd w v sz xs:=by
 subst he
 obtain ⟨_,fp,_,⟨f1,f2,_,h1,_⟩,_⟩:=hm.take ht
 exact Qo hx hn h1
theorem lk {α:Type} (l:List α):(l.map fun v=>[v]).flatten=l:=by
 induction l with
 | nil=>rfl
 | cons x l ih=>simp [ih]
theorem Mem.Qs {c:Cx} {hs hs':List a8} {w:World} (hm:Mem c hs w) {E:TypeId} {v:Value} {n:Nat} {ys:List Value} (ht:Take hs (row E 1 v n ys) hs') (hn:ys.length=n):Rd w v 1 (ys.map fun u=>[u]):=
 hm.n9 ht (lk ys).symm (fun r hr=>by obtain ⟨u,_,rfl⟩:=Zu.1 hr;rfl) (by simpa using hn)
theorem dd {c:Cx} {D:List Nat} {sl:aG} {hs hs':List a8} {X:Act→World→Prop} {E:TypeId} {sz:Nat} {v:Value} {n:Nat} {xs:List Value} (ht:Take hs (row E sz v n xs) hs') (hn:0<n)
  (k:∀ g cap cur,v=.slice (some ⟨g,0,none⟩) n cap→n≤cap→cap≤maxLen→(xs++cur).length=cap*sz→xs.length=n*sz→Tr c D sl (bG g (.cells (xs++cur).toArray E (0,0))::hs') X):Tr c D sl hs X:=fun a w bb=>by
 have hm:=bb.mem.take (ht.append _)
 obtain ⟨kk,fp,kU,⟨f1,f2,rfl,⟨e,hl,h1⟩,h2⟩,hb⟩:=hm
 rcases h1 with ⟨_,h0⟩ | ⟨g,cap,cur,rfl,hg,c7,zQ,hsz,dY⟩
 ·omega
 ·have ng:cur=(xs++cur.toList.drop (n*sz)).toArray:=by
   rw [← dY,ZZ]
  have hlen:(xs++cur.toList.drop (n*sz)).length=cap*sz:=by rw [← dY,ZZ];simpa using hsz
  refine k g cap (cur.toList.drop (n*sz)) rfl c7 zQ hlen hl a w (bb.heap ⟨kk,f1++f2,kU,⟨f1,f2,rfl,⟨?_,?_⟩,h2⟩,hb⟩)
  ·rw [e];rfl
  ·rw [← ng];exact hg
theorem Mem.MJ {c:Cx} {hs:List a8} {w:World} {E:TypeId} {sz g n cap:Nat} {xs cur:List Value} (hm:Mem c (SL.bG g (.cells (xs++cur).toArray E (0,0))::hs) w) (c7:n≤cap) (zQ:cap≤maxLen) (hsz:(xs++cur).length=cap*sz) (hl:xs.length=n*sz):Mem c (row E sz (.slice (some ⟨g,0,none⟩) n cap) n xs::hs) w:=by
 obtain ⟨kk,fp,kU,⟨f1,f2,rfl,⟨e,hg⟩,h2⟩,hb⟩:=hm
 refine ⟨kk,f1++f2,kU,⟨f1,f2,rfl,⟨by rw [e];rfl,hl,.inr ⟨g,cap,_,rfl,hg,c7,zQ,by simpa using hsz,?_⟩⟩,h2⟩,hb⟩
 simp [← hl]
theorem cN {c:Cx} {D:List Nat} {sl:aG} {hs hs':List a8} {X:Act→World→Prop} {E:TypeId} {sz g n cap:Nat} {xs cur:List Value} (ht:Take hs (bG g (.cells (xs++cur).toArray E (0,0))) hs') (c7:n≤cap) (zQ:cap≤maxLen) (hsz:(xs++cur).length=cap*sz) (hl:xs.length=n*sz)
  (k:Tr c D sl (row E sz (.slice (some ⟨g,0,none⟩) n cap) n xs::hs') X):Tr c D sl hs X:=fun a w bb=>
 k a w (bb.heap (Mem.MJ (bb.mem.take (ht.append _)) c7 zQ hsz hl))
section
variable {P:Program} {r:Option Nat} {c:Cx} {D:List Nat} {sl:aG} {hs hs':List a8} {ops:Array Oper} {Q:Exit→Act→World→Prop} {d:Nat} {ty:TypeId} {pos:String} {af:Array Edge} {rest:List Oper}
theorem qy {w w':World} {t ty e:TypeId} {i:TypeInfo} {z:Value} (ht:P.underlying t=some (.slice e)) (hi:P.info? e=some i) (hz:i.zero=some z)
  {v v':Value} {n:Nat} {xs:List Value} (rm:w.ownsRow 0 e i.size v n xs) {a:Addr} {m cp:Nat} {news:List Value} (hl:news.length=m*i.size) (rn:∀ j u,news[j]? = some u→w.cell? (a.add j)=some u) (h1:∀ u∈news,u.oneCell'=true)
  (h63:n+m≤maxLen) (gI:(n+m)*i.bytes≤140737488355328) (iu:(Builtin.append_ #[t,t] ty #[v,.slice (some a) m cp]).run P w=.ok v' w'):(v'.ownBlock=v.ownBlock∨v'.ownBlock=some w.heap.size)∧w.drawn≤w'.drawn:=by
 have Xu:n+m≤9223372036854775807:=by simp only [maxLen] at h63;omega
 rcases rm.2 with ⟨rfl,rfl⟩ | ⟨g,cap,cur,rfl,RT,hg,hnc,hcm,Pe,dY⟩
 ·by_cases hm:m=0
  ·subst hm
   have hn:news=[]:=Z2 (by simpa using hl)
   subst hn
   have:(Builtin.append_ #[t,t] ty #[.slice none 0 0,.slice (some a) 0 cp]).run P w=.ok (.slice none 0 0) w:=by
    simp [Builtin.append_,aU ht,sizeOf,typeInfo,hi,Builtin.lenOf,Builtin.firstCells,loadCells,loadCellsFrom]
   rw [iu] at this
   cases this
   exact ⟨.inl rfl,Zz _⟩
  ·have hr:=run_append_nil (P:=P) w t ty e i z ht hi hz a m cp news hl rn (by omega) (by omega) (by have hb:=gI;simp only [ZB] at hb;omega)
   rw [iu] at hr
   cases hr
   exact ⟨.inr rfl,Nat.le_succ _⟩
 ·by_cases yb:n+m≤cap
  ·have hfit:n*i.size+news.length≤cur.size:=by rw [hl,Pe,← Nat.add_mul];exact Z9 _ yb
   have hr:=run_append_room (P:=P) w t ty e i ht hi g n cap cur hg a m cp news hl rn h1 yb hfit
   rw [iu] at hr
   cases hr
   exact ⟨.inl rfl,Zz _⟩
  ·have holds:∀ j u,xs[j]? = some u→w.cell? ((⟨g,0,none⟩:Addr).add j)=some u:=rm.cells (g:=g) rfl
   have hr:=run_append_grow (P:=P) w t ty e i z ht hi hz ⟨g,0,none⟩ n cap xs rm.1 holds a m cp news hl rn (by omega) (by omega) (growslice_fits (by omega) gI)
   rw [iu] at hr
   cases hr
   exact ⟨.inr rfl,Nat.le_succ _⟩
theorem xw {t e:TypeId} {agg:Bool} {size bytes:Nat} {z:Value} {x y:Operand} {v:Value} {n b o m cp:Nat} {xs news:List Value} [hu:iF P t (.slice e)] [hT:Ty P e agg size] [hZ:lF P e z] [hB:ug P e bytes]
  (hx:Is sl x v) (hy:Is sl y (.slice (some ⟨b,o,none⟩) m cp)) (ht:Take hs (row e size v n xs) hs') (hn:eF c hs b o news) (hl:news.length=m*size) (h1:∀ u∈news,u.oneCell'=true) (hz:z.cells.size=size) (hsz:Nat.blt 0 size=true) (hb0:Nat.blt 0 bytes=true)
  (hb:(n+m)*bytes≤140737488355328) (hd:Nat.blt d c.nt=true)
  (k:∀ v',Tr c D ((d,v')::sl) (row e size v' (n+m) (xs++news)::hs') (WL P r ops Q rest)) :
  Tr c D sl hs (WL P r ops Q (⟨some d,.call ⟨.builtin .append,#[x,y],#[t,t]⟩,ty,pos,af,none⟩::rest)):=fun a w bb=>by
 obtain ⟨de,i,mh,hi,_,iD⟩:=Ty.parts (P:=P) (t:=e) (agg:=agg) (n:=size)
 have hzero:i.zero=some z:=by have:=hZ.eq;rw [hi] at this;simpa using this
 have gI:i.bytes=bytes:=by have:=hB.eq;rw [hi] at this;simpa using this
 have Wm:=bb.rb
 have hm:=bb.mem.take (ht.append _)
 obtain ⟨kk,fp,kU,⟨f1,f2,rfl,hrow,h2⟩,DP⟩:=hm
 have rm:=Bi hrow
 have B3:0<bytes:=by simpa using hb0
 have bQ:n+m≤maxLen:=by
  have:(n+m)*1≤(n+m)*bytes:=Zbo _ B3
  unfold maxLen;omega
 obtain ⟨v',w',iu,rk,vk,_⟩:=run_append_own (P:=P) w 0 t ty e i z size bytes hu.eq hi hzero iD gI hz (by simpa using hsz) v n xs rm ⟨b,o,none⟩ m cp news hl
  (fun j u hj=>by rw [eI];exact hn.get j u hj w Wm) h1 bQ hb (Zi _)
 have wE:=qy (P:=P) (t:=t) (ty:=ty) hu.eq hi hzero (by rw [iD];exact rm) (a:=⟨b,o,none⟩) (m:=m) (cp:=cp) (by rw [iD];exact hl) (fun j u hj=>by rw [eI];exact hn.get j u hj w Wm) h1 bQ (by rw [gI];exact hb) iu
 refine mi rfl ⟨dM _ _ _ _ _,?_⟩
 rw [Oper.semAt_eq _ _ _ (by simp)]
 have:(execOp a.eval ⟨some d,.call ⟨.builtin .append,#[x,y],#[t,t]⟩,ty,pos,af,none⟩).run P w=.ok (.value v') w':=by
  simp [execOp,resolve,invoke,builtin,hx a bb.cS,hy a bb.cS,iu]
 rw [this]
 refine k v' _ _ ((bb.put (by simpa [Z4] using hd) v').heap ?_)
 have hm:Mem c ([row e size v n xs]++(hs'++mw D)) w:=⟨kk,f1++f2,kU,⟨f1,f2,rfl,hrow,h2⟩,DP⟩
 have:=Mem.change (Bs:=[row e size v' (n+m) (xs++news)]) (w':=w') hm fun fp tX hf=>by
  obtain ⟨g1,g2,e1,hr,e2⟩:=hf
  have GD:fp=v.ownBlock.toList:=by rw [e1,show g2=[] from e2,hr.1];simp
  refine ⟨⟨vk.os,vk.tape,vk.output,wE.2,vk.size,fun q hq XV=>vk.block q hq (fun he=>XV ?_)⟩,v'.ownBlock.toList,?_,⟨_,[],by simp,lN rk,rfl⟩,fun q hq=>?_⟩
  ·rw [GD,← he];simp
  ·cases v'.ownBlock <;> simp
  ·have vY:v'.ownBlock=some q:=by simpa [Option.mem_toList] using hq
   rcases wE.1 with h | h
   ·left;rw [GD,← h,vY];simp
   ·right
    rw [h] at vY
    cases vY
    exact Zz _
 simpa using this
end
end Go.SL
namespace Go.SL
open Go
def Cz {ι:Type} (c:Cx) (D:List Nat) (Φ:ι→Prop) (sI:ι→aG) (hI:ι→List a8) (μ:ι→Nat) (i:ι):Act→World→Prop:=fun a w=>∃ j,Φ j∧μ j<μ i∧St c D (sI j) (hI j) a w
def yy {ι:Type} (c:Cx) (D:List Nat) (Φ:ι→Prop) (sI:ι→aG) (hI:ι→List a8):Act→World→Prop:=fun a w=>∃ i,Φ i∧St c D (sI i) (hI i) a w
section
variable {P:Program} {r:Option Nat} {c:Cx} {D:List Nat} {sl:aG} {hs hs':List a8} {Q:Exit→Act→World→Prop} {ι:Type} {Φ:ι→Prop} {sI:ι→aG} {hI:ι→List a8} {μ:ι→Nat}
theorem aX {x:Code} (Φ:ι→Prop) (sI:ι→aG) (hI:ι→List a8) (μ:ι→Nat) (h0:Tr c D sl hs (yy c D Φ sI hI))
  (round:∀ i,Φ i→Tr c D (sI i) (hI i) (WP P r x (Exit.then (Cz c D Φ sI hI μ i) Q))):Tr c D sl hs (WP P r (.loop x) Q):=
 Mg Φ sI hI μ h0 round
def lx (sl:aG):aG→Prop
 | []=>True
 | (t,v)::r=>cK sl t=some v∧lx sl r
theorem lx.get:∀ {jk:aG},lx sl jk→∀ t v,cK jk t=some v→cK sl t=some v
 | [],_,t,v,h=>by cases h
 | (u, x) :: r, ⟨h1, h2⟩, t, v, h => by
  by_cases e:u=t
  ·subst e;rw [fB] at h;cases h;exact h1
  ·rw [fA e] at h;exact lx.get h2 t v h
theorem lx.nil:lx sl []:=trivial
theorem lx.cons {t:Nat} {v:Value} {r:aG} (h:cK sl t=some v) (k:lx sl r):lx sl ((t,v)::r):=⟨h,k⟩
theorem lx.KV {t:Nat} {v u:Value} {r:aG} (h:cK sl t=some u) (e:u=v) (k:lx sl r):lx sl ((t,v)::r):=⟨e ▸ h,k⟩
theorem St.weaken {jk:aG} {hs1 rest:List a8} {a:Act} {w:World} (h:St c D sl hs a w) (hs':lx sl jk) (ht:bz hs hs1 rest):St c D jk hs1 a w:=by
 refine ⟨?_,h.cS.sub hs'.get,h.size,h.defers⟩
 have h1:=h.mem.iT (ht.append (mw D))
 -- hs1++(rest++mw):forget AD rest
 obtain ⟨k,fp,hn,ir,hb⟩:=h1
 obtain ⟨f1,f2,rfl,s1,s2⟩:=ch.append_iff.1 ir
 obtain ⟨g1,g2,rfl,s3,s4⟩:=ch.append_iff.1 s2
 refine ⟨k,f1++g2,?_,ch.append_iff.2 ⟨f1,g2,rfl,s1,s4⟩,fun b dA=>hb b ?_⟩
 ·obtain ⟨n1,n2,n3⟩:=ZF.1 hn
  obtain ⟨_,n5,_⟩:=ZF.1 n2
  exact ZF.2 ⟨n1,n5,fun x hx y hy=>n3 x hx y (ZS _ hy)⟩
 ·rcases Zx.1 dA with h | h
  ·exact ZE _ h
  ·exact ZS _ (ZS _ h)
theorem aJ {i:ι} (j:ι) {rest:List a8} (hΦ:Φ j) (hμ:μ j<μ i) (hs1:lx sl (sI j)) (ht:bz hs (hI j) rest):Tr c D sl hs (Cz c D Φ sI hI μ i):=
 fun a w bb=>⟨j,hΦ,hμ,bb.weaken hs1 ht⟩
theorem aI (j:ι) {rest:List a8} (hΦ:Φ j) (hs1:lx sl (sI j)) (ht:bz hs (hI j) rest):Tr c D sl hs (yy c D Φ sI hI):=
 fun a w bb=>⟨j,hΦ,bb.weaken hs1 ht⟩
def PS (c:Cx) (D:List Nat) {ι:Type} (Φ:ι→Prop) (sM:ι→aG) (hM:ι→List a8):Act→World→Prop:=fun a w=>∃ x,Φ x∧St c D (sM x) (hM x) a w
theorem P6 {x y:Code} (Φ:ι→Prop) (sM:ι→aG) (hM:ι→List a8) (h1:Tr c D sl hs (WP P r x (Exit.then (PS c D Φ sM hM) Q))) (h2:∀ x,Φ x→Tr c D (sM x) (hM x) (WP P r y Q)):Tr c D sl hs (WP P r (.seq x y) Q):=
 mP fun a w bb=>wpIn_mono (h1 a w bb) fun e a' w' h=>by
  cases e with
  | normal=>obtain ⟨x,hx,hs⟩:=h;exact h2 x hx a' w' hs
  | _=>exact h
theorem Eu (x:ι) {sM:ι→aG} {hM:ι→List a8} {rest:List a8} (hΦ:Φ x) (h1:lx sl (sM x)) (ht:bz hs (hM x) rest):Tr c D sl hs (PS c D Φ sM hM):=fun a w bb=>⟨x,hΦ,bb.weaken h1 ht⟩
variable {ops:Array Oper} {d:Nat} {dst:Option Tmp} {ty:TypeId} {pos:String} {af:Array Edge} {g:Option (Nat×Bool)} {rest:List Oper}
theorem F6 {t:TypeId} {x:Operand} {s:ByteArray} [hu:iF P t .string] (hx:Is sl x (.string s)):qD P c sl hs ⟨dst,.range t x,ty,pos,af,g⟩ (fun b=>.pointer (some ⟨b,0,none⟩)) (.stringIter s 0):=
 ⟨by simp,fun a w ha _=>by simp [execOp,hx a ha,Instr.range,aU hu.eq]⟩
theorem HA {x:Operand} {b p:Nat} {s:ByteArray} (hx:Is sl x (.pointer (some ⟨b,0,none⟩))) (ht:Take hs (bG b (.stringIter s p)) hs') (hd:Nat.blt d c.nt=true)
  (kt:p<s.size→Tr c D ((d,.tuple [Value.bool true,.int .i64 p,.int .i32 (Utf8.decode s p).1].toArray)::sl) (bG b (.stringIter s (p+(Utf8.decode s p).2))::hs') (WL P r ops Q rest))
  (kf:¬ p<s.size→Tr c D ((d,.tuple [Value.bool false].toArray)::sl) (bG b (.stringIter s p)::hs') (WL P r ops Q rest)) :
  Tr c D sl hs (WL P r ops Q (⟨some d,.next x true,ty,pos,af,none⟩::rest)):=fun a w bb=>by
 have hm:=bb.mem.take (ht.append _)
 have hb:w.heap[b]? = some (.stringIter s p):=hm.bG .here
 have aK:=j5 (w:=w) hb
 refine mi rfl ⟨dM _ _ _ _ _,?_⟩
 rw [Oper.semAt_eq _ _ _ (by simp)]
 by_cases h:p<s.size
 ·have:(execOp a.eval ⟨some d,.next x true,ty,pos,af,none⟩).run P w=.ok (.value (.tuple [Value.bool true,.int .i64 p,.int .i32 (Utf8.decode s p).1].toArray)) (setBlock w b (.stringIter s (p+(Utf8.decode s p).2))):=by
   simp [execOp,hx a bb.cS,Instr.next,getObj,setObj,Sem.run,hb,h,goInt,setBlock]
  rw [this]
  exact kt h _ _ ((bb.put (by simpa [Z4] using hd) _).heap (Mem.store hm (aH.setBlock w b _) (lW aK)))
 ·have:(execOp a.eval ⟨some d,.next x true,ty,pos,af,none⟩).run P w=.ok (.value (.tuple [Value.bool false].toArray)) w:=by
   simp [execOp,hx a bb.cS,Instr.next,getObj,Sem.run,hb,h]
  rw [this]
  exact kf h _ _ ((bb.put (by simpa [Z4] using hd) _).heap hm)
structure KeyLaw (kind:TypeDesc) {κ:Type} [DecidableEq κ] (kv:κ→Value):Prop where
 same:∀ a b,Instr.sameNow kind (kv a) (kv b)=some (decide (a=b))
 bits:∀ a,Instr.sameBits 10000 (kv a) (kv a)=true
 flat:∀ (P:Program) (t:TypeId) (e:Bool) (w:World) (a:κ),P.underlying t=some kind→(Instr.checkKey e 10000 t (kv a)).run P w=.ok () w
structure IT {κ:Type} (kv:κ→Value) (l:List (κ×Value)) (es:Array MapEntry) (ck:Nat):Prop where
 eq:es.toList.map (fun e=>(e.key,e.val))=l.map (fun p=>(kv p.1,p.2))
 nd:(es.toList.map (·.born)).Nodup
 lt:∀ x∈es.toList,x.born<ck
def mp {κ:Type} (kv:κ→Value) (b:Nat) (l:List (κ×Value)):a8 where
 sat h fp:=fp=[b]∧∃ es clock,h b=some (.map es clock)∧IT kv l es clock
 loc:=fun ⟨e,es,ck,h1,h2⟩ hb=>⟨e,es,ck,by rw [hb _ (by rw [e];simp)];exact h1,h2⟩
 own:=fun ⟨e,es,ck,h1,h2⟩ b' dA=>by rw [e] at dA;rw [ZK.1 dA];exact ⟨_,h1⟩
def eA {κ:Type} [DecidableEq κ] (k:κ):List (κ×Value)→Option Value
 | []=>none
 | (x,v)::r=>if k=x then some v else eA k r
def mG {κ:Type} [DecidableEq κ] (k:κ) (v:Value):List (κ×Value)→List (κ×Value)
 | []=>[(k,v)]
 | (x,u)::r=>if k=x then (x,v)::r else (x,u)::mG k v r
section
variable {κ:Type} [DecidableEq κ] {kv:κ→Value} {kind:TypeDesc}
theorem findNow_spec (hk:KeyLaw kind kv) (k:κ):∀ (es:List MapEntry) (l:List (κ×Value)) (i:Nat),es.map (fun e=>(e.key,e.val))=l.map (fun p=>(kv p.1,p.2)) →
  (eA k l=none∧Instr.findNow kind (kv k) es i=some none) ∨
  (∃ j v,eA k l=some v∧Instr.findNow kind (kv k) es i=some (some (i+j,v))∧j<es.length∧(∃ x,l[j]? = some (x,v)∧x=k)∧∀ u,mG k u l=l.set j (k,u))
 | [],[],i,_=>.inl ⟨rfl,rfl⟩
 | [],_::_,i,h=>by simp at h
 | _::_,[],i,h=>by simp at h
 | e :: es, (x, v) :: l, i, h => by
  simp only [Z8,List.cons.injEq,Prod.mk.injEq] at h
  obtain ⟨⟨h1,h2⟩,h3⟩:=h
  have hs:=hk.same k x
  unfold Instr.findNow
  rw [h1,hs]
  by_cases e':k=x
  ·subst e'
   refine .inr ⟨0,v,by simp [eA],by simp [h2],by simp,⟨k,by simp,rfl⟩,fun u=>by simp [mG]⟩
  ·simp only [e',decide_false]
   rcases findNow_spec hk k es l (i+1) h3 with ⟨a1,a2⟩ | ⟨j,u,a1,a2,a3,⟨y,a4,a5⟩,a6⟩
   ·exact .inl ⟨by simp [eA,e',a1],a2⟩
   ·exact .inr ⟨j+1,u,by simp [eA,e',a1],by rw [a2];congr 3;omega,by simp;omega,⟨y,by simpa using a4,a5⟩,fun u'=>by simp [mG,e',a6 u']⟩
theorem yw {k:κ} {v:Value}:∀ {l:List (κ×Value)},eA k l=none→mG k v l=l++[(k,v)]
 | [],_=>rfl
 | (x, u) :: r, h => by
  simp only [eA] at h
  split at h
  ·cases h
  ·rename_i e;simp [mG,e,yw h]
theorem CY {t:TypeId} (kv:κ→Value) (hd:Nat.blt d c.nt=true) (k:∀ b,c.w0.heap.size≤b→Tr c D ((d,.map (some b))::sl) (mp kv b []::hs) (WL P r ops Q rest)) :
  Tr c D sl hs (WL P r ops Q (⟨some d,.makeMap t none,ty,pos,af,none⟩::rest)):=
 bo Dl hd fun b hb a w bb=>k b hb a w (bb.heap (by
  obtain ⟨kk,fp,hn,⟨f1,f2,rfl,⟨e,h1⟩,h2⟩,DP⟩:=bb.mem
  exact ⟨kk,f1++f2,hn,⟨f1,f2,rfl,⟨e,#[],0,h1,rfl,Zam,fun _ h=>by cases h⟩,h2⟩,DP⟩))
def Looks (c:Cx) (hs:List a8) (b:Nat) (kv:κ→Value) (l:List (κ×Value)):Prop:=∀ w,Mem c hs w→∃ es clock,w.heap[b]? = some (.map es clock)∧IT kv l es clock
theorem Looks.mp {b:Nat} {l:List (κ×Value)} (ht:Take hs (SL.mp kv b l) hs'):Looks c hs b kv l:=fun w hm=>by
 obtain ⟨_,fp,_,⟨f1,f2,_,⟨_,es,ck,h1,h2⟩,_⟩,_⟩:=hm.take ht
 exact ⟨es,ck,h1,h2⟩
theorem F7 {t kt et:TypeId} {x y:Operand} {b:Nat} {k:κ} {l:List (κ×Value)} {z:Value} [hu:iF P t (.map kt et)] [GC:iF P kt kind] [hz:lF P et z] (hk:KeyLaw kind kv) (hx:Is sl x (.map (some b))) (hy:Is sl y (kv k)) (hl:Looks c hs b kv l) :
  cR P c sl hs ⟨dst,.lookup t x y false,ty,pos,af,g⟩ ((eA k l).getD z):=
 ⟨by
   simp,fun a w ha hm=>by
  obtain ⟨es,ck,h1,h2⟩:=hl w hm
  have hg:(getObj b).run P w=.ok (.map es ck) w:=by simp [getObj,Sem.run,h1]
  have sV:=hk.flat P kt es.isEmpty w k GC.eq
  rcases findNow_spec hk k es.toList l 0 h2.eq with ⟨a1,a2⟩ | ⟨j,v,a1,a2,_⟩
  ·have:(Instr.findKey kt (kv k) es.toList).run P w=.ok none w:=by
    simp [Instr.findKey,aU GC.eq,a2]
   simp [execOp,hx a ha,hy a ha,Instr.lookup,aU hu.eq,hg,sV,this,a1,il (t:=et) (v:=z)]
  ·have:(Instr.findKey kt (kv k) es.toList).run P w=.ok (some (0+j,v)) w:=by
    simp [Instr.findKey,aU GC.eq,a2]
   simp [execOp,hx a ha,hy a ha,Instr.lookup,aU hu.eq,hg,sV,this,a1]⟩
theorem mQ {t kt et:TypeId} {x y v':Operand} {b:Nat} {k:κ} {v:Value} {l:List (κ×Value)} [hu:iF P t (.map kt et)] [GC:iF P kt kind] (hk:KeyLaw kind kv) (hx:Is sl x (.map (some b))) (hy:Is sl y (kv k)) (hv:Is sl v' v) (ht:Take hs (mp kv b l) hs')
  (kk:Tr c D sl (mp kv b (mG k v l)::hs') (WL P r ops Q rest)):Tr c D sl hs (WL P r ops Q (⟨none,.mapUpdate t x y v',ty,pos,af,none⟩::rest)):=fun a w bb=>by
 have hm:=bb.mem.take (ht.append _)
 obtain ⟨kk0,fp,hn,⟨f1,f2,rfl,⟨e,es,ck,h1,h2⟩,h3⟩,DP⟩:=hm
 have CL:w.heap[b]? = some (.map es ck):=h1
 have hm:Mem c ([mp kv b l]++(hs'++mw D)) w:=⟨kk0,f1++f2,hn,⟨f1,f2,rfl,⟨e,es,ck,h1,h2⟩,h3⟩,DP⟩
 have hg:(getObj b).run P w=.ok (.map es ck) w:=by simp [getObj,Sem.run,CL]
 have zN:∀ o,(setObj b o).run P w=.ok () (setBlock w b o):=fun o=>by simp [setObj,Sem.run,CL,setBlock]
 have sV:=hk.flat P kt false w k GC.eq
 have aK:=j5 (w:=w) CL
 have iu:∃ N9 VI,(execOp a.eval ⟨none,.mapUpdate t x y v',ty,pos,af,none⟩).run P w=.ok .skip (setBlock w b (.map N9 VI))∧IT kv (mG k v l) N9 VI:=by
  rcases findNow_spec hk k es.toList l 0 h2.eq with ⟨a1,a2⟩ | ⟨j,v0,a1,a2,hj,⟨x0,QZ,rfl⟩,pt⟩
  ·have hf:(Instr.findKey kt (kv k) es.toList).run P w=.ok none w:=by
    simp [Instr.findKey,aU GC.eq,a2]
   refine ⟨es.push { key:=kv k,val:=v,born:=ck },ck+1,?_,?_⟩
   ·simp [execOp,hx a bb.cS,hy a bb.cS,hv a bb.cS,Instr.mapUpdate,aU hu.eq,hg,sV,hf,zN]
   ·refine ⟨?_,?_,?_⟩
    ·rw [yw a1]
     simp [h2.eq]
    ·simp only [Array.toList_push,Zr,Z8,Zf]
     refine ZF.2 ⟨h2.nd,by simp,fun x hx y hy e=>?_⟩
     obtain ⟨z,hz,rfl⟩:=Zu.1 hx
     have:=h2.lt z hz
     simp at hy;omega
    ·intro x hx
     rw [Array.toList_push,Zx] at hx
     rcases hx with hx | hx
     ·have:=h2.lt x hx;omega
     ·simp at hx;subst hx;show ck<ck+1;omega
  ·have hf:(Instr.findKey kt (kv x0) es.toList).run P w=.ok (some (0+j,v0)) w:=by
    simp [Instr.findKey,aU GC.eq,a2]
   have vj:(es[j]?.map (·.key)).getD (kv x0)=kv x0:=by
    have h5:(es.toList.map (fun e=>(e.key,e.val)))[j]? = some (kv x0,v0):=by rw [h2.eq];simp [QZ]
    rw [ZD] at h5
    obtain ⟨e0,AI,Km⟩:=Zah.1 h5
    simp only [Prod.mk.injEq] at Km
    have:es[j]? = some e0:=by simpa using AI
    simp [this,Km.1]
   have X6:(Instr.keyThatStays (kv x0) (kv x0)).run P w=.ok (kv x0) w:=by simp [Instr.keyThatStays,hk.bits]
   refine ⟨es.modify j fun e=>{ e with key:=kv x0,val:=v },ck,?_,?_⟩
   ·simp only [execOp,hx a bb.cS,hy a bb.cS,hv a bb.cS,Instr.mapUpdate,Sem.run_bind,aU hu.eq,Result.andThen_ok,hg,sV,hf,ZB,vj,X6,zN,Sem.run_pure]
   ·have Ph:((es.modify j fun e=>{ e with key:=kv x0,val:=v }).toList.map (·.born))=es.toList.map (·.born):=by
     rw [Array.toList_modify]
     apply Zap
     intro q
     rw [ZD,ZD,List.getElem?_modify]
     by_cases SV:j=q
     ·subst SV;cases es.toList[j]? <;> simp
     ·simp [SV]
    refine ⟨?_,by rw [Ph];exact h2.nd,fun x hx=>?_⟩
    rotate_left
    ·have:x.born∈es.toList.map (·.born):=by rw [← Ph];exact Zu.2 ⟨x,hx,rfl⟩
     obtain ⟨y,hy,e⟩:=Zu.1 this
     rw [← e];exact h2.lt y hy
    rw [pt]
    rw [Array.toList_modify]
    apply Zap
    intro q
    rw [ZD,ZD,List.getElem?_modify,List.getElem?_set]
    have hq:(es.toList.map (fun e=>(e.key,e.val)))[q]? = (l.map (fun p=>(kv p.1,p.2)))[q]?:=by rw [h2.eq]
    rw [ZD,ZD] at hq
    have hlen:es.toList.length=l.length:=by have:=congrArg List.length h2.eq;simpa using this
    by_cases SV:j=q
    ·subst SV
     have RE:j<l.length:=by rw [← hlen];exact hj
     have he:es.toList[j]? = some es.toList[j]:=Zc hj
     rw [he,if_pos rfl,if_pos RE];simp
    ·rw [if_neg SV,← hq];simp [SV]
 obtain ⟨N9,VI,hr,eG⟩:=iu
 refine mi rfl ⟨dM _ _ _ _ _,?_⟩
 rw [Oper.semAt_eq _ _ _ (by simp),hr]
 refine kk _ _ (bb.heap ?_)
 have:=Mem.change (Bs:=[mp kv b (mG k v l)]) (w':=setBlock w b (.map N9 VI)) hm fun fp tX hf=>by
  obtain ⟨g1,g2,e1,Uq,e2⟩:=hf
  have GD:fp=[b]:=by rw [e1,show g2=[] from e2,Uq.1];rfl
  subst GD
  exact ⟨aH.setBlock w b _,[b],by simp,⟨[b],[],rfl,⟨rfl,N9,VI,lW aK,eG⟩,rfl⟩,fun q hq=>.inl hq⟩
 simpa using this
end
theorem I3:KeyLaw .string (fun s:ByteArray=>Value.string s) where
 same a b:=by
  simp only [Instr.sameNow]
  congr 1
  rw [beq_toListBytes,tL]
 bits a:=by unfold Instr.sameBits;simp [beq_toListBytes]
 flat P t e w a h:=by unfold Instr.checkKey;simp [aU h]
end
end Go.SL
namespace Go.SL
open Go
def N8 {ι:Type} (Φ:ι→Prop) (A:ι→List a8):a8 where
 sat h fp:=∃ x,Φ x∧ch h (A x) fp
 loc:=fun ⟨x,hx,hs⟩ hb=>⟨x,hx,hs.loc hb⟩
 own:=fun ⟨_,_,hs⟩ b hb=>hs.own b hb
section
variable {P:Program} {r:Option Nat} {c:Cx} {D:List Nat} {sl:aG} {hs hs':List a8} {Q:Exit→Act→World→Prop} {ι:Type}
theorem F4 {l:Nat} {f:FuncId} {tmps:Array Value} {Eg body:Code} {w:World} {R:Ending→World→Prop} (h:RoundIn (FR none) 0 P l f tmps Eg body w R):RoundIn (FR r) 0 P l f tmps Eg body w R:=h
variable {ops:Array Oper} {d:Nat} {ty:TypeId} {pos:String} {af:Array Edge} {rest:List Oper}
def fU (rc:Loop) (s:LoopState) (pd:Option Code):Obj:=.loop { rc with state:=s,pending:=pd }
def oP (md:List Nat) (w:World) (post:Bool→a8):Ending→World→Prop:=fun e W'=>∃ b,e=.returned (.bool b)∧aH md w W'∧∃ lD:List Nat,lD.Nodup∧(post b).sat (hp W') lD∧∀ x∈lD,x∈md∨w.heap.size≤x
def Em (P:Program) (l:Nat) (body:Code) (R:Ending→World→Prop):Act→World→Prop:=fun a₁ w₁=>∃ w₂,(Instr.beginRound l).run P w₁=.ok () w₂∧body.wpIn (FR (some l)) 0 P (roundPost P l R) a₁ w₂
theorem mm {l:Nat} {rc:Loop} {body:Code} {R:Ending→World→Prop} {pd:Option Code} (ht:Take hs (bG l (fU rc .ready pd)) hs') (k:Tr c D sl (bG l (fU rc .busy pd)::hs') (WP P (some l) body (roundPost P l R))):Tr c D sl hs (Em P l body R):=fun a w bb=>by
 have hm:=bb.mem.take (ht.append _)
 have hb:w.heap[l]? = some (fU rc .ready pd):=hm.bG .here
 refine ⟨w.putObj l (fU rc .busy pd),run_beginRound (r:={ rc with state:=.ready,pending:=pd }) hb rfl,k a _ (bb.heap (Mem.store hm ⟨rfl,rfl,rfl,Zz _,by simp,fun k _ hn=>World.putObj_heap_other (by simpa using hn)⟩ (World.putObj_heap_same (j5 (w:=w) hb))))⟩
theorem xG {l:Nat} {rc:Loop} {post:Bool→a8} {s:LoopState} {pd jump:Option Code} (ht:Take hs (bG l (fU rc s pd)) hs') {hs2:List a8} (ht2:∀ w,Mem c (bG l (fU rc (if jump.isNone then .ready else .done) jump)::hs') w→∃ fp:List Nat,fp.Nodup∧(post jump.isNone).sat (hp w) fp∧∀ b∈fp,c.w0.heap.size≤b∨b∈c.md)
  {a:Act} {w:World} (bb:St c D sl hs a w):∃ v w',(Instr.endRound l jump).run P w=.ok v w'∧oP c.md c.w0 post (.returned v) w':=by
 have _:=hs2
 have hm:=bb.mem.take (ht.append _)
 have hb:w.heap[l]? = some (fU rc s pd):=hm.bG .here
 have hk:aH [l] w (w.putObj l (fU rc (if jump.isNone then .ready else .done) jump)):=⟨rfl,rfl,rfl,Zz _,by simp,fun k _ hn=>World.putObj_heap_other (by simpa using hn)⟩
 have l7:=Mem.store hm hk (World.putObj_heap_same (j5 (w:=w) hb))
 refine ⟨.bool jump.isNone,_,run_endRound (r:={ rc with state:=s,pending:=pd }) jump hb,jump.isNone,rfl,l7.keeps,?_⟩
 obtain ⟨fp,h1,h2,h3⟩:=ht2 _ (by have:=l7;rw [← Zb] at this;exact this.lp)
 exact ⟨fp,h1,h2,fun b hb=>(h3 b hb).symm⟩
theorem HW {Φ:ι→Prop} {A:ι→List a8} (x:ι) (hx:Φ x) {As rest:List a8} (ht:bz As (A x) rest) {w:World} (hm:Mem c As w):∃ fp:List Nat,fp.Nodup∧(N8 Φ A).sat (hp w) fp∧∀ b∈fp,c.w0.heap.size≤b∨b∈c.md:=by
 obtain ⟨_,fp,hn,ir,hb⟩:=hm.iT ht
 obtain ⟨f1,f2,rfl,h1,_⟩:=ch.append_iff.1 ir
 exact ⟨f1,(ZF.1 hn).1,⟨x,hx,h1⟩,fun b dA=>hb b (ZE _ dA)⟩
theorem FT {l:Nat} {rc:Loop} {post:Bool→a8} {s:LoopState} {pd:Option Code} {Φ:ι→Prop} {A:ι→List a8} (x:ι) {rest:List a8} (vZ:post true=N8 Φ A) (ht:Take hs (bG l (fU rc s pd)) hs') (hx:Φ x) (h2:bz (bG l (fU rc .ready none)::hs') (A x) rest) :
  Tr c D sl hs (roundPost P l (oP c.md c.w0 post) .normal):=fun _ _ bb=>
 xG (jump:=none) (hs2:=[]) ht (fun w hm=>by show ∃ fp:List Nat,fp.Nodup∧(post true).sat (hp w) fp∧_;rw [vZ];exact HW x hx h2 hm) bb
theorem FQ {l:Nat} {rc:Loop} {post:Bool→a8} {s:LoopState} {pd:Option Code} {Φ:ι→Prop} {A:ι→List a8} (x:ι) {rest:List a8} (vZ:post false=N8 Φ A) (ht:Take hs (bG l (fU rc s pd)) hs') (hx:Φ x) (h2:bz (bG l (fU rc .done (some .ret))::hs') (A x) rest) :
  Tr c D sl hs (roundPost P l (oP c.md c.w0 post) .ret):=fun _ _ bb=>
 xG (jump:=some .ret) (hs2:=[]) ht (fun w hm=>by show ∃ fp:List Nat,fp.Nodup∧(post false).sat (hp w) fp∧_;rw [vZ];exact HW x hx h2 hm) bb
def l5:List (Nat×Value)→aG→aG
 | [],sl=>sl
 | (t,v)::r,sl=>l5 r ((t,v)::sl)
theorem xM {nt:Nat}:∀ (ps:List (Nat×Value)) (sl:aG) (tmps:Array Value),bR sl ⟨tmps,[]⟩→tmps.size=nt→(∀ p∈ps,p.1<nt) →
  bR (l5 ps sl) ⟨ps.foldl (fun t p=>t.setIfInBounds p.1 p.2) tmps,[]⟩∧(ps.foldl (fun (t:Array Value) p=>t.setIfInBounds p.1 p.2) tmps).size=nt
 | [],sl,tmps,h,hn,_=>⟨h,hn⟩
 | (t, v) :: ps, sl, tmps, h, hn, hp => by
  have h1:=h.put (d:=t) (by show t<tmps.size;rw [hn];exact hp (t,v) (by simp)) v
  exact xM ps ((t,v)::sl) (tmps.setIfInBounds t v) h1 (by simpa using hn) (fun q hq=>hp q (by simp [hq]))
theorem yL {g:Operand} {ps:Array Tmp} {Eg body:Code} {f:FuncId} {first cap:List Value} (hg:Is sl g (.func (.func f) first.toArray cap.toArray)) [bM P f]
  {As:Nat→Loop→List a8} {rest:List a8} {Φ:Nat→Loop→ι→Prop} {own:Nat→Loop→ι→List a8} {st:ι→LoopState} {pd:ι→Option Code}
  (ht:∀ l rc,bz (bG l (fU rc .ready none)::hs) (As l rc) rest) (bb:∀ x,st x≠.busy)
  (hc:∀ l rc,rc.params=ps→rc.assign=Eg→rc.body=body→bR sl ⟨rc.tmps,[]⟩→rc.tmps.size=c.nt→∀ w fp,Mem c (bG l (fU rc .ready none)::hs) w→fp.Nodup→ch (hp w) (As l rc) fp→(∀ b∈fp,c.w0.heap.size≤b∨b∈c.md) →
   bh P f (first++[Value.func (Fn.yield l) #[] #[]]++cap) w fp (Φ l rc) (fun _=>Value.tuple #[]) (fun x=>bG l (fU rc (st x) (pd x))::own l rc x))
  (kn:∀ l rc x b,Φ l rc x→pd x=none→Tr c (b::D) sl (own l rc x++rest) (Q .normal))
  (kj:∀ l rc x b j,Φ l rc x→pd x=some j→Tr c (b::D) sl (own l rc x++rest) (WP P none j Q)) :
  Tr c D sl hs (WP P none (.rangeFunc g ps Eg body) Q):=fun a w hs0=>by
 refine wpIn_rangeFunc fun fn _=>?_
 let rc:Loop:={ state:=.ready,pending:=none,fn,tmps:=a.tmps,params:=ps,assign:=Eg,body,defers:=w.heap.size }
 let l:=w.heap.size+1
 let w1:=(w.alloc (.deferred (some []))).alloc (.loop rc)
 have XD:fU rc .ready none=.loop rc:=rfl
 -- AD state behind AD record
 have aR:Mem c (bG w.heap.size (.deferred (some []))::(hs++mw D)) (w.alloc (.deferred (some []))):=hs0.mem.alloc _
 have l7:Mem c (bG l (fU rc .ready none)::bG w.heap.size (.deferred (some []))::(hs++mw D)) w1:=by
  have:=aR.alloc (.loop rc)
  simpa [l,w1,XD] using this
 -- Qr: AD record and hs ahead,AD new mark abp AD marks
 have Wl:Mem c ((bG l (fU rc .ready none)::hs)++mw (w.heap.size::D)) w1:=by
  obtain ⟨k,fp,hn,⟨f1,f2,rfl,h1,⟨f3,f4,rfl,h3,h4⟩⟩,hb⟩:=l7
  obtain ⟨f5,f6,rfl,h5,h6⟩:=ch.append_iff.1 h4
  have ic:(f1++(f3++(f5++f6))).Perm ((f1++f5)++(f3++f6)):=by
   rw [Zh]
   refine List.Perm.append_left f1 ?_
   rw [← Zh,← Zh]
   exact List.perm_append_comm.append_right f6
  refine ⟨k,(f1++f5)++(f3++f6),ic.nodup_iff.1 hn,ch.append_iff.2 ⟨f1++f5,f3++f6,rfl,⟨f1,f5,rfl,h1,h5⟩,⟨f3,f6,rfl,h3,h6⟩⟩,fun b dA=>hb b (ic.mem_iff.2 dA)⟩
 have htk:=ht l rc
 obtain ⟨k4,fp,hn,ir,hb⟩:=Wl.iT (htk.append (mw (w.heap.size::D)))
 obtain ⟨f1,f2,rfl,h1,h2⟩:=ch.append_iff.1 ir
 have cr:=hc l rc rfl rfl rfl hs0.cS hs0.size w1 f1 Wl.lp (ZF.1 hn).1 h1 (fun b dA=>hb b (ZE _ dA))
 refine ⟨l,[{ target:=.collected w.heap.size,args:=#[] }],w1,{ target:=.fn (.func f) cap.toArray,args:=first.toArray++#[.func (.yield l) #[] #[]] },w1,f,(first++[Value.func (Fn.yield l) #[] #[]]++cap).toArray,w1,run_enterLoop_outer fn a.tmps ps Eg body,?_,fun _ _=>trivial,?_,by simp [FR,Fence.wide],?_⟩
 ·have:=hg a hs0.cS
  simp only [resolve,rangeCall,Deferred.ofValue,this,Sem.run_bind,Sem.run_pure,Result.andThen_ok]
  simp [Act.eval,l]
 ·simp only [invoke]
  rw [sF]
  simp
 ·refine (ie (r:=none) cr).mono fun e w' ⟨x,he,hx,hk,lD,tX,hs',yh⟩=>?_
  subst he
  obtain ⟨g1,g2,rfl,NC,rm⟩:=hs'
  obtain ⟨rfl,hl⟩:=NC
  have BY:w'.heap[l]? = some (fU rc (st x) (pd x)):=hl
  refine ⟨pd x,w'.putObj l (fU rc .exhausted (pd x)),run_endLoop (r:={ rc with state:=st x,pending:=pd x }) BY (bb x),?_⟩
  -- AD state behind it all
  obtain ⟨n1,n2,n12⟩:=ZF.1 hn
  have aK:∀ b∈f2,b<w1.heap.size:=fun b dA=>let ⟨o,ho⟩:=h2.own b dA;j5 ho
  have hm5:Mem c (bG l (fU rc (st x) (pd x))::(own l rc x++(rest++mw (w.heap.size::D)))) w':=by
   refine ⟨?_,(([l]++g2)++f2),?_,?_,?_⟩
   ·refine ⟨hk.os.trans k4.os,hk.tape.trans k4.tape,hk.output.trans k4.output,ZY k4.dr hk.dr,ZY k4.size hk.size,fun b dA hm=>?_⟩
    rw [← k4.block b dA hm]
    refine hk.block b (Zay dA k4.size) (fun hf=>?_)
    rcases hb b (ZE _ hf) with h | h
    ·omega
    ·exact hm h
   ·refine ZF.2 ⟨tX,n2,fun x hx y hy e=>?_⟩
    subst e
    rcases yh x hx with h | h
    ·exact n12 x h x hy rfl
    ·have:=aK x hy;omega
   ·rw [Zh]
    exact ⟨[l],g2++f2,rfl,⟨rfl,hl⟩,ch.append_iff.2 ⟨g2,f2,rfl,rm,h2.loc fun b dA=>hk.block b (aK b dA) (fun hf=>n12 b hf b dA rfl)⟩⟩
   ·intro b dA
    rcases Zx.1 dA with h | h
    ·rcases yh b h with h | h
     ·exact hb b (ZE _ h)
     ·exact .inl (ZY k4.size h)
    ·exact hb b (ZS _ h)
  have hm6:Mem c ((own l rc x++rest)++mw (w.heap.size::D)) (w'.putObj l (fU rc .exhausted (pd x))):=by
   have:=(Mem.store hm5 (w':=w'.putObj l (fU rc .exhausted (pd x))) ⟨rfl,rfl,rfl,Zz _,by simp,fun k _ hn=>World.putObj_heap_other (by simpa using hn)⟩ (World.putObj_heap_same (j5 (w:=w') BY))).vw
   rwa [Zh]
  have Gt:St c (w.heap.size::D) sl (own l rc x++rest) { a with defers:=[{ target:=.collected w.heap.size,args:=#[] }]++a.defers } (w'.putObj l (fU rc .exhausted (pd x))):=
   ⟨hm6,hs0.cS,hs0.size,by simp [hs0.defers,mark]⟩
  cases hj:pd x with
  | none=>rw [hj] at Gt;exact kn l rc x w.heap.size hx hj _ _ Gt
  | some j=>rw [hj] at Gt;exact kj l rc x w.heap.size j hx hj _ _ Gt
end
end Go.SL
namespace Go.SL
open Go
section
variable {P:Program} {c:Cx} {sl:aG} {hs:List a8} {dst:Option Tmp} {ty:TypeId} {pos:String} {af:Array Edge} {g:Option (Nat×Bool)}
theorem Af {t e:TypeId} (hu:iF P t (.slice e)):P.elem t=e:=by simp [Program.elem,hu.eq]
theorem oX {t e:TypeId} (hu:iF P t (.slice e)):P.underlying t=some (.slice (P.elem t)):=by rw [Af hu];exact hu.eq
theorem value_of {i:Sem Value} {v:Value} {w:World} (h:i.run P w=.ok v w):(do let x ← i;pure (Next.value x):Sem Next).run P w=.ok (.value v) w:=by
 rw [Sem.run_bind,h];rfl
theorem gY {t e:TypeId} {n:Nat} {agg:Bool} {x y:Operand} {a:Option Addr} {len cap:Nat} {k:IntKind} {h:Int} [hu:iF P t (.slice e)] [Ty P e agg n] (hx:Is sl x (.slice a len cap)) (hy:Is sl y (.int k h)) (h0:0≤h) (h1:h≤cap) :
  cR P c sl hs ⟨dst,.slice t x none (some y) none,ty,pos,af,g⟩ (sliced a 0 h.toNat cap n):=
 ⟨by simp,fun ac w ha _=>by
  have:=run_slice_h (P:=P) w t a len cap (oX hu) k h h0 h1
  simp only [execOp,hx ac ha,hy ac ha,Option.map]
  refine value_of ?_
  rw [run_sliceAt_slice _ _ _ _ _ _ (oX hu),this,Af hu,fT (n:=n) (agg:=agg)]
  rfl⟩
theorem pU {t e:TypeId} {n:Nat} {agg:Bool} {x y:Operand} {a:Option Addr} {len cap:Nat} {k:IntKind} {h:Int} [hu:iF P t (.slice e)] [Ty P e agg n] (hx:Is sl x (.slice a len cap)) (hy:Is sl y (.int k h)) (h0:0≤h) (h1:h≤len) :
  cR P c sl hs ⟨dst,.slice t x (some y) none none,ty,pos,af,g⟩ (sliced a h.toNat len cap n):=
 ⟨by simp,fun ac w ha _=>by
  have:=run_slice_l (P:=P) w t a len cap (oX hu) k h h0 h1
  simp only [execOp,hx ac ha,hy ac ha,Option.map]
  refine value_of ?_
  rw [run_sliceAt_slice _ _ _ _ _ _ (oX hu),this,Af hu,fT (n:=n) (agg:=agg)]
  rfl⟩
theorem bS {t:TypeId} {n:Nat} {x:Operand} {b o:Nat} {cs vs:List Value} {E:TypeId} {fz:Nat×Nat} {hs':List a8} [Ty P t true n] (hx:Is sl x (.pointer (some ⟨b,o,none⟩))) (ht:Take hs (SL.bG b (.cells cs.toArray E fz)) hs') (hv:ed cs o n=vs) (hl:vs.length=n) :
  cR P c sl hs ⟨dst,.load t x,ty,pos,af,g⟩ (.agg vs.toArray):=jt hx (eF.bG ht hv) hl
theorem bH {r:Option Nat} {D:List Nat} {ops:Array Oper} {Q:Exit→Act→World→Prop} {d:Nat} {rest:List Oper} {hs' hs2:List a8} {t e:TypeId} {agg:Bool} {size bytes:Nat} {z:Value} {x y:Operand} {v:Value} {n b o m cp:Nat} {xs news cs:List Value} {E:TypeId} {fz:Nat×Nat} [iF P t (.slice e)] [Ty P e agg size] [lF P e z] [ug P e bytes]
  (hx:Is sl x v) (hy:Is sl y (.slice (some ⟨b,o,none⟩) m cp)) (ht:Take hs (row e size v n xs) hs') (ht2:Take hs (SL.bG b (.cells cs.toArray E fz)) hs2) (hv:ed cs o (m*size)=news) (hl:news.length=m*size) (h1:∀ u∈news,u.oneCell'=true) (hz:z.cells.size=size) (hsz:Nat.blt 0 size=true) (hb0:Nat.blt 0 bytes=true)
  (hb:(n+m)*bytes≤140737488355328) (hd:Nat.blt d c.nt=true)
  (k:∀ v',Tr c D ((d,v')::sl) (row e size v' (n+m) (xs++news)::hs') (WL P r ops Q rest)) :
  Tr c D sl hs (WL P r ops Q (⟨some d,.call ⟨.builtin .append,#[x,y],#[t,t]⟩,ty,pos,af,none⟩::rest)):=
 xw hx hy ht (eF.bG ht2 hv) hl h1 hz hsz hb0 hb hd k
theorem kN {fn:Func} {t:Tmp} {T:TypeId} {b o n:Nat} {cs vs:List Value} {E:TypeId} {fz:Nat×Nat} {hs':List a8} (h:fn.results=#[.cell t T]) (hT:Ty P T true n) (hp:cK sl t=some (.pointer (some ⟨b,o,none⟩))) (ht:Take hs (SL.bG b (.cells cs.toArray E fz)) hs') (hv:ed cs o n=vs) (hl:vs.length=n):Ends P fn c sl hs (.agg vs.toArray):=
 Oa h hp (eF.bG ht hv) hl
theorem P5 {r:Option Nat} {D:List Nat} {ops:Array Oper} {Q:Exit→Act→World→Prop} {d:Option Tmp} {op:Op} {rest:List Oper} {j gs:Nat} {want:Bool} (hj:((ops[j]?).bind (·.dst))=some gs) (hq:cK sl gs=some (.bool want))
  (k:Tr c D sl hs (WL P r ops Q (⟨d,op,ty,pos,af,none⟩::rest))):Tr c D sl hs (WL P r ops Q (⟨d,op,ty,pos,af,some (j,want)⟩::rest)):=fun a w bb=>by
 have h:=k a w bb
 unfold WL at h ⊢
 rw [if_pos (by simp [Region.wanted])] at h
 rw [kS (o:=⟨d,op,ty,pos,af,some (j,want)⟩) (c0:=true) rfl hj bb.cS (by rw [hq];rfl),if_pos (by simp)]
 exact h
theorem Rd.sliced {w:World} {a:Option Addr} {len cap sz:Nat} {xs:List (List Value)} (h:Rd w (.slice a len cap) sz xs) {l m:Nat} (hl:l≤m) (hm:m≤len):Rd w (Go.sliced a l m cap sz) sz ((xs.take m).drop l):=by
 obtain ⟨a',gQ,b,o,e,h1,h2,h3,h4⟩:=h
 cases e
 have e:((xs.take m).drop l).length=m-l:=by simp;omega
 by_cases hc:cap=l
 ·refine ⟨a,cap-l,b,o,?_,by omega,by omega,fun hn=>?_,fun i r hr=>?_⟩
  ·simp [Go.sliced,hc,e]
  ·exact absurd (Z2 (by omega)) hn
  ·have:=(Zl.1 hr).1;omega
 ·refine ⟨a.map (·.add (l*sz)),cap-l,b,o+l*sz,?_,by omega,by omega,fun hn=>?_,fun i r hr=>?_⟩
  ·simp [Go.sliced,hc,e]
  ·have hx:xs≠[]:=by intro e;subst e;simp at hn
   rw [h3 hx]
   by_cases e0:l*sz=0
   ·simp [Addr.add,e0]
   ·simp [Addr.add,e0]
  ·rw [Zbc,ZC] at hr
   split at hr
   ·obtain ⟨q1,q2⟩:=h4 _ _ hr
    refine ⟨q1,fun j u hu=>?_⟩
    have:=q2 j u hu
    rw [show o+l*sz+i*sz+j=o+(l+i)*sz+j by rw [Nat.add_mul];omega]
    exact this
   ·simp at hr
end
end Go.SL
namespace Go.Proofs
open Go Go.SL
instance :SG Tryz.prog:=⟨by kernel_rfl⟩
instance :Ty Tryz.prog 3 false 1:=⟨by kernel_rfl⟩
instance :iF Tryz.prog 3 (.int .i64):=⟨by kernel_rfl⟩
instance :lF Tryz.prog 3 (.int .i64 0):=⟨by kernel_rfl⟩
instance :ug Tryz.prog 3 8:=⟨by kernel_rfl⟩
instance :Ty Tryz.prog 4 false 1:=⟨by kernel_rfl⟩
instance :iF Tryz.prog 4 (.bool):=⟨by kernel_rfl⟩
instance :lF Tryz.prog 4 (.bool false):=⟨by kernel_rfl⟩
instance :ug Tryz.prog 4 1:=⟨by kernel_rfl⟩
instance :Ty Tryz.prog 9 false 1:=⟨by kernel_rfl⟩
instance :iF Tryz.prog 9 (.string):=⟨by kernel_rfl⟩
instance :lF Tryz.prog 9 (.string ⟨#[]⟩):=⟨by kernel_rfl⟩
instance :ug Tryz.prog 9 16:=⟨by kernel_rfl⟩
instance :Ty Tryz.prog 22 false 1:=⟨by kernel_rfl⟩
instance :iF Tryz.prog 22 (.slice 118):=⟨by kernel_rfl⟩
instance :Ty Tryz.prog 23 false 1:=⟨by kernel_rfl⟩
instance :iF Tryz.prog 23 (.slice 88):=⟨by kernel_rfl⟩
instance :Ty Tryz.prog 24 false 1:=⟨by kernel_rfl⟩
instance :iF Tryz.prog 24 (.slice 122):=⟨by kernel_rfl⟩
instance :Ty Tryz.prog 25 false 1:=⟨by kernel_rfl⟩
instance :iF Tryz.prog 25 (.slice 180):=⟨by kernel_rfl⟩
instance :Ty Tryz.prog 27 true 6:=⟨by kernel_rfl⟩
instance :lF Tryz.prog 27 (.agg #[.int .i64 0,.int .i64 0,.slice none 0 0,.slice none 0 0,.slice none 0 0,.slice none 0 0]):=⟨by kernel_rfl⟩
instance :CC Tryz.prog 27 [(0,1),(1,1),(2,1),(3,1),(4,1),(5,1)] [.int .i64 0,.int .i64 0,.slice none 0 0,.slice none 0 0,.slice none 0 0,.slice none 0 0]:=⟨by kernel_rfl⟩
instance :eh Tryz.prog 27 0 0:=⟨by kernel_rfl⟩
instance :eh Tryz.prog 27 1 1:=⟨by kernel_rfl⟩
instance :eh Tryz.prog 27 2 2:=⟨by kernel_rfl⟩
instance :eh Tryz.prog 27 3 3:=⟨by kernel_rfl⟩
instance :eh Tryz.prog 27 4 4:=⟨by kernel_rfl⟩
instance :eh Tryz.prog 27 5 5:=⟨by kernel_rfl⟩
instance :Ty Tryz.prog 29 true 3:=⟨by kernel_rfl⟩
instance :eh Tryz.prog 29 0 0:=⟨by kernel_rfl⟩
instance :eh Tryz.prog 29 1 1:=⟨by kernel_rfl⟩
instance :eh Tryz.prog 29 2 2:=⟨by kernel_rfl⟩
instance :Ty Tryz.prog 32 false 1:=⟨by kernel_rfl⟩
instance :iF Tryz.prog 32 (.slice 9):=⟨by kernel_rfl⟩
instance :lF Tryz.prog 32 (.slice none 0 0):=⟨by kernel_rfl⟩
instance :ug Tryz.prog 32 24:=⟨by kernel_rfl⟩
instance :Ty Tryz.prog 33 false 1:=⟨by kernel_rfl⟩
instance :lF Tryz.prog 33 (.int .i64 0):=⟨by kernel_rfl⟩
instance :Ty Tryz.prog 36 false 1:=⟨by kernel_rfl⟩
instance :iF Tryz.prog 36 (.slice 186):=⟨by kernel_rfl⟩
instance :Ty Tryz.prog 37 false 1:=⟨by kernel_rfl⟩
instance :iF Tryz.prog 37 (.slice 90):=⟨by kernel_rfl⟩
instance :Ty Tryz.prog 38 false 1:=⟨by kernel_rfl⟩
instance :iF Tryz.prog 38 (.slice 187):=⟨by kernel_rfl⟩
instance :Ty Tryz.prog 39 false 1:=⟨by kernel_rfl⟩
instance :iF Tryz.prog 39 (.slice 188):=⟨by kernel_rfl⟩
instance :Ty Tryz.prog 41 true 6:=⟨by kernel_rfl⟩
instance :lF Tryz.prog 41 (.agg #[.int .i64 0,.int .i64 0,.slice none 0 0,.slice none 0 0,.slice none 0 0,.slice none 0 0]):=⟨by kernel_rfl⟩
instance :CC Tryz.prog 41 [(0,1),(1,1),(2,1),(3,1),(4,1),(5,1)] [.int .i64 0,.int .i64 0,.slice none 0 0,.slice none 0 0,.slice none 0 0,.slice none 0 0]:=⟨by kernel_rfl⟩
instance :eh Tryz.prog 41 0 0:=⟨by kernel_rfl⟩
instance :eh Tryz.prog 41 1 1:=⟨by kernel_rfl⟩
instance :eh Tryz.prog 41 2 2:=⟨by kernel_rfl⟩
instance :eh Tryz.prog 41 3 3:=⟨by kernel_rfl⟩
instance :eh Tryz.prog 41 4 4:=⟨by kernel_rfl⟩
instance :eh Tryz.prog 41 5 5:=⟨by kernel_rfl⟩
instance :Ty Tryz.prog 49 false 1:=⟨by kernel_rfl⟩
instance :iF Tryz.prog 49 (.slice 3):=⟨by kernel_rfl⟩
instance :lF Tryz.prog 49 (.slice none 0 0):=⟨by kernel_rfl⟩
instance :Ty Tryz.prog 66 false 1:=⟨by kernel_rfl⟩
instance :iF Tryz.prog 66 (.slice 69):=⟨by kernel_rfl⟩
instance :Ty Tryz.prog 69 true 2:=⟨by kernel_rfl⟩
instance :lF Tryz.prog 69 (.agg #[.string ⟨#[]⟩,.slice none 0 0]):=⟨by kernel_rfl⟩
instance :ug Tryz.prog 69 40:=⟨by kernel_rfl⟩
instance :CC Tryz.prog 69 [(0,1),(1,1)] [.string ⟨#[]⟩,.slice none 0 0]:=⟨by kernel_rfl⟩
instance :eh Tryz.prog 69 0 0:=⟨by kernel_rfl⟩
instance :eh Tryz.prog 69 1 1:=⟨by kernel_rfl⟩
instance :Ty Tryz.prog 72 false 1:=⟨by kernel_rfl⟩
instance :iF Tryz.prog 72 (.slice 78):=⟨by kernel_rfl⟩
instance :Ty Tryz.prog 78 true 2:=⟨by kernel_rfl⟩
instance :lF Tryz.prog 78 (.agg #[.string ⟨#[]⟩,.slice none 0 0]):=⟨by kernel_rfl⟩
instance :ug Tryz.prog 78 40:=⟨by kernel_rfl⟩
instance :CC Tryz.prog 78 [(0,1),(1,1)] [.string ⟨#[]⟩,.slice none 0 0]:=⟨by kernel_rfl⟩
instance :eh Tryz.prog 78 0 0:=⟨by kernel_rfl⟩
instance :eh Tryz.prog 78 1 1:=⟨by kernel_rfl⟩
instance :Ty Tryz.prog 88 true 3:=⟨by kernel_rfl⟩
instance :lF Tryz.prog 88 (.agg #[.string ⟨#[]⟩,.int .i64 0,.bool false]):=⟨by kernel_rfl⟩
instance :ug Tryz.prog 88 32:=⟨by kernel_rfl⟩
instance :eh Tryz.prog 88 0 0:=⟨by kernel_rfl⟩
instance :eh Tryz.prog 88 1 1:=⟨by kernel_rfl⟩
instance :eh Tryz.prog 88 2 2:=⟨by kernel_rfl⟩
instance :Ty Tryz.prog 90 true 3:=⟨by kernel_rfl⟩
instance :lF Tryz.prog 90 (.agg #[.string ⟨#[]⟩,.int .i64 0,.bool false]):=⟨by kernel_rfl⟩
instance :ug Tryz.prog 90 32:=⟨by kernel_rfl⟩
instance :CC Tryz.prog 90 [(0,1),(1,1),(2,1)] [.string ⟨#[]⟩,.int .i64 0,.bool false]:=⟨by kernel_rfl⟩
instance :eh Tryz.prog 90 0 0:=⟨by kernel_rfl⟩
instance :eh Tryz.prog 90 1 1:=⟨by kernel_rfl⟩
instance :eh Tryz.prog 90 2 2:=⟨by kernel_rfl⟩
instance :iF Tryz.prog 93 (.slice 105):=⟨by kernel_rfl⟩
instance :iF Tryz.prog 96 (.slice 182):=⟨by kernel_rfl⟩
instance :Ty Tryz.prog 105 true 2:=⟨by kernel_rfl⟩
instance :lF Tryz.prog 105 (.agg #[.int .i64 0,.slice none 0 0]):=⟨by kernel_rfl⟩
instance :ug Tryz.prog 105 32:=⟨by kernel_rfl⟩
instance :eh Tryz.prog 105 0 0:=⟨by kernel_rfl⟩
instance :eh Tryz.prog 105 1 1:=⟨by kernel_rfl⟩
instance :Ty Tryz.prog 118 true 2:=⟨by kernel_rfl⟩
instance :lF Tryz.prog 118 (.agg #[.string ⟨#[]⟩,.int .i64 0]):=⟨by kernel_rfl⟩
instance :ug Tryz.prog 118 24:=⟨by kernel_rfl⟩
instance :eh Tryz.prog 118 0 0:=⟨by kernel_rfl⟩
instance :eh Tryz.prog 118 1 1:=⟨by kernel_rfl⟩
instance :Ty Tryz.prog 122 true 3:=⟨by kernel_rfl⟩
instance :lF Tryz.prog 122 (.agg #[.string ⟨#[]⟩,.int .i64 0,.int .i64 0]):=⟨by kernel_rfl⟩
instance :ug Tryz.prog 122 32:=⟨by kernel_rfl⟩
instance :eh Tryz.prog 122 0 0:=⟨by kernel_rfl⟩
instance :eh Tryz.prog 122 1 1:=⟨by kernel_rfl⟩
instance :eh Tryz.prog 122 2 2:=⟨by kernel_rfl⟩
instance :iF Tryz.prog 156 (.slice 32):=⟨by kernel_rfl⟩
instance :Ty Tryz.prog 180 true 3:=⟨by kernel_rfl⟩
instance :lF Tryz.prog 180 (.agg #[.int .i64 0,.string ⟨#[]⟩,.string ⟨#[]⟩]):=⟨by kernel_rfl⟩
instance :ug Tryz.prog 180 40:=⟨by kernel_rfl⟩
instance :CC Tryz.prog 180 [(0,1),(1,1),(2,1)] [.int .i64 0,.string ⟨#[]⟩,.string ⟨#[]⟩]:=⟨by kernel_rfl⟩
instance :eh Tryz.prog 180 0 0:=⟨by kernel_rfl⟩
instance :eh Tryz.prog 180 1 1:=⟨by kernel_rfl⟩
instance :eh Tryz.prog 180 2 2:=⟨by kernel_rfl⟩
instance :Ty Tryz.prog 182 true 2:=⟨by kernel_rfl⟩
instance :lF Tryz.prog 182 (.agg #[.int .i64 0,.slice none 0 0]):=⟨by kernel_rfl⟩
instance :ug Tryz.prog 182 32:=⟨by kernel_rfl⟩
instance :CC Tryz.prog 182 [(0,1),(1,1)] [.int .i64 0,.slice none 0 0]:=⟨by kernel_rfl⟩
instance :eh Tryz.prog 182 0 0:=⟨by kernel_rfl⟩
instance :eh Tryz.prog 182 1 1:=⟨by kernel_rfl⟩
instance :Ty Tryz.prog 186 true 2:=⟨by kernel_rfl⟩
instance :lF Tryz.prog 186 (.agg #[.string ⟨#[]⟩,.int .i64 0]):=⟨by kernel_rfl⟩
instance :ug Tryz.prog 186 24:=⟨by kernel_rfl⟩
instance :CC Tryz.prog 186 [(0,1),(1,1)] [.string ⟨#[]⟩,.int .i64 0]:=⟨by kernel_rfl⟩
instance :eh Tryz.prog 186 0 0:=⟨by kernel_rfl⟩
instance :eh Tryz.prog 186 1 1:=⟨by kernel_rfl⟩
instance :Ty Tryz.prog 187 true 3:=⟨by kernel_rfl⟩
instance :lF Tryz.prog 187 (.agg #[.string ⟨#[]⟩,.int .i64 0,.int .i64 0]):=⟨by kernel_rfl⟩
instance :ug Tryz.prog 187 32:=⟨by kernel_rfl⟩
instance :CC Tryz.prog 187 [(0,1),(1,1),(2,1)] [.string ⟨#[]⟩,.int .i64 0,.int .i64 0]:=⟨by kernel_rfl⟩
instance :eh Tryz.prog 187 0 0:=⟨by kernel_rfl⟩
instance :eh Tryz.prog 187 1 1:=⟨by kernel_rfl⟩
instance :eh Tryz.prog 187 2 2:=⟨by kernel_rfl⟩
instance :Ty Tryz.prog 188 true 3:=⟨by kernel_rfl⟩
instance :lF Tryz.prog 188 (.agg #[.int .i64 0,.string ⟨#[]⟩,.string ⟨#[]⟩]):=⟨by kernel_rfl⟩
instance :ug Tryz.prog 188 40:=⟨by kernel_rfl⟩
instance :CC Tryz.prog 188 [(0,1),(1,1),(2,1)] [.int .i64 0,.string ⟨#[]⟩,.string ⟨#[]⟩]:=⟨by kernel_rfl⟩
instance :eh Tryz.prog 188 0 0:=⟨by kernel_rfl⟩
instance :eh Tryz.prog 188 1 1:=⟨by kernel_rfl⟩
instance :eh Tryz.prog 188 2 2:=⟨by kernel_rfl⟩
instance :Ty Tryz.prog 199 false 1:=⟨by kernel_rfl⟩
instance :Ty Tryz.prog 220 false 1:=⟨by kernel_rfl⟩
instance :lF Tryz.prog 220 (.nilFunc):=⟨by kernel_rfl⟩
instance :iF Tryz.prog 232 (.slice 4):=⟨by kernel_rfl⟩
instance :Ty Tryz.prog 244 true 2:=⟨by kernel_rfl⟩
instance :lF Tryz.prog 244 (.agg #[.slice none 0 0,.int .i64 0]):=⟨by kernel_rfl⟩
instance :ug Tryz.prog 244 32:=⟨by kernel_rfl⟩
instance :CC Tryz.prog 244 [(0,1),(1,1)] [.slice none 0 0,.int .i64 0]:=⟨by kernel_rfl⟩
instance :eh Tryz.prog 244 0 0:=⟨by kernel_rfl⟩
instance :eh Tryz.prog 244 1 1:=⟨by kernel_rfl⟩
instance :Ty Tryz.prog 254 false 1:=⟨by kernel_rfl⟩
instance :iF Tryz.prog 254 (.map 9 257):=⟨by kernel_rfl⟩
instance :lF Tryz.prog 254 (.map none):=⟨by kernel_rfl⟩
instance :Ty Tryz.prog 257 true 3:=⟨by kernel_rfl⟩
instance :lF Tryz.prog 257 (.agg #[.int .i64 0,.int .i64 0,.int .i64 0]):=⟨by kernel_rfl⟩
instance :CC Tryz.prog 257 [(0,1),(1,1),(2,1)] [.int .i64 0,.int .i64 0,.int .i64 0]:=⟨by kernel_rfl⟩
instance :eh Tryz.prog 257 0 0:=⟨by kernel_rfl⟩
instance :FTy Tryz.prog 257 0 0 3:=⟨by kernel_rfl⟩
instance :eh Tryz.prog 257 1 1:=⟨by kernel_rfl⟩
instance :eh Tryz.prog 257 2 2:=⟨by kernel_rfl⟩
instance :Ty Tryz.prog 264 true 2:=⟨by kernel_rfl⟩
instance :CC Tryz.prog 264 [(0,1),(1,1)] [.string ⟨#[]⟩,.nilFunc]:=⟨by kernel_rfl⟩
instance :eh Tryz.prog 264 0 0:=⟨by kernel_rfl⟩
instance :Ty Tryz.prog 265 true 10:=⟨by kernel_rfl⟩
instance :iF Tryz.prog 265 (.array 5 264):=⟨by kernel_rfl⟩
instance :lF Tryz.prog 265 (.agg #[.string ⟨#[]⟩,.nilFunc,.string ⟨#[]⟩,.nilFunc,.string ⟨#[]⟩,.nilFunc,.string ⟨#[]⟩,.nilFunc,.string ⟨#[]⟩,.nilFunc]):=⟨by kernel_rfl⟩
instance :CC Tryz.prog 265 [(0,2),(2,2),(4,2),(6,2),(8,2)] [.string ⟨#[]⟩,.nilFunc,.string ⟨#[]⟩,.nilFunc,.string ⟨#[]⟩,.nilFunc,.string ⟨#[]⟩,.nilFunc,.string ⟨#[]⟩,.nilFunc]:=⟨by kernel_rfl⟩
instance :iF Tryz.prog 287 (.slice 33):=⟨by kernel_rfl⟩
instance :Ty Tryz.prog 299 true 2:=⟨by kernel_rfl⟩
instance :iF Tryz.prog 299 (.array 2 3):=⟨by kernel_rfl⟩
instance :lF Tryz.prog 299 (.agg #[.int .i64 0,.int .i64 0]):=⟨by kernel_rfl⟩
instance :CC Tryz.prog 299 [(0,1),(1,1)] [.int .i64 0,.int .i64 0]:=⟨by kernel_rfl⟩
instance :Ty Tryz.prog 329 false 1:=⟨by kernel_rfl⟩
instance :iF Tryz.prog 329 (.slice 244):=⟨by kernel_rfl⟩
instance :lF Tryz.prog 329 (.slice none 0 0):=⟨by kernel_rfl⟩
instance :AA Tryz.prog 88 [9,3,4]:=⟨by kernel_rfl,by kernel_rfl,by kernel_rfl⟩
instance :AA Tryz.prog 118 [9,3]:=⟨by kernel_rfl,by kernel_rfl,by kernel_rfl⟩
instance :AA Tryz.prog 122 [9,3,3]:=⟨by kernel_rfl,by kernel_rfl,by kernel_rfl⟩
instance :AA Tryz.prog 180 [3,9,9]:=⟨by kernel_rfl,by kernel_rfl,by kernel_rfl⟩
instance :AA Tryz.prog 188 [3,9,9]:=⟨by kernel_rfl,by kernel_rfl,by kernel_rfl⟩
instance :AA Tryz.prog 299 [3,3]:=⟨by kernel_rfl,by kernel_rfl,by kernel_rfl⟩
instance :bM Tryz.prog 17:=⟨by kernel_rfl⟩
instance :bM Tryz.prog 18:=⟨by kernel_rfl⟩
instance :bM Tryz.prog 19:=⟨by kernel_rfl⟩
instance :bM Tryz.prog 20:=⟨by kernel_rfl⟩
instance :bM Tryz.prog 21:=⟨by kernel_rfl⟩
instance :bM Tryz.prog 22:=⟨by kernel_rfl⟩
instance :bM Tryz.prog 23:=⟨by kernel_rfl⟩
instance :bM Tryz.prog 24:=⟨by kernel_rfl⟩
instance :bM Tryz.prog 25:=⟨by kernel_rfl⟩
instance :bM Tryz.prog 26:=⟨by kernel_rfl⟩
instance :bM Tryz.prog 27:=⟨by kernel_rfl⟩
instance :bM Tryz.prog 28:=⟨by kernel_rfl⟩
instance :bM Tryz.prog 29:=⟨by kernel_rfl⟩
instance :bM Tryz.prog 30:=⟨by kernel_rfl⟩
instance :bM Tryz.prog 31:=⟨by kernel_rfl⟩
instance :bM Tryz.prog 32:=⟨by kernel_rfl⟩
instance :bM Tryz.prog 33:=⟨by kernel_rfl⟩
instance :bM Tryz.prog 34:=⟨by kernel_rfl⟩
instance :bM Tryz.prog 35:=⟨by kernel_rfl⟩
instance :bM Tryz.prog 36:=⟨by kernel_rfl⟩
instance :bM Tryz.prog 37:=⟨by kernel_rfl⟩
instance :bM Tryz.prog 38:=⟨by kernel_rfl⟩
instance :bM Tryz.prog 39:=⟨by kernel_rfl⟩
instance :bM Tryz.prog 40:=⟨by kernel_rfl⟩
instance :bM Tryz.prog 41:=⟨by kernel_rfl⟩
instance :bM Tryz.prog 42:=⟨by kernel_rfl⟩
instance :bM Tryz.prog 43:=⟨by kernel_rfl⟩
instance :bM Tryz.prog 44:=⟨by kernel_rfl⟩
instance :bM Tryz.prog 45:=⟨by kernel_rfl⟩
instance :bM Tryz.prog 46:=⟨by kernel_rfl⟩
instance :bM Tryz.prog 47:=⟨by kernel_rfl⟩
instance :bM Tryz.prog 48:=⟨by kernel_rfl⟩
instance :bM Tryz.prog 49:=⟨by kernel_rfl⟩
instance :bM Tryz.prog 50:=⟨by kernel_rfl⟩
instance :bM Tryz.prog 51:=⟨by kernel_rfl⟩
instance :bM Tryz.prog 52:=⟨by kernel_rfl⟩
instance :bM Tryz.prog 53:=⟨by kernel_rfl⟩
instance :bM Tryz.prog 54:=⟨by kernel_rfl⟩
instance :bM Tryz.prog 55:=⟨by kernel_rfl⟩
instance :bM Tryz.prog 56:=⟨by kernel_rfl⟩
instance :bM Tryz.prog 57:=⟨by kernel_rfl⟩
instance :bM Tryz.prog 58:=⟨by kernel_rfl⟩
instance :bM Tryz.prog 59:=⟨by kernel_rfl⟩
instance :bM Tryz.prog 60:=⟨by kernel_rfl⟩
instance :bM Tryz.prog 61:=⟨by kernel_rfl⟩
instance :bM Tryz.prog 62:=⟨by kernel_rfl⟩
instance :bM Tryz.prog 63:=⟨by kernel_rfl⟩
instance :bM Tryz.prog 64:=⟨by kernel_rfl⟩
instance :bM Tryz.prog 65:=⟨by kernel_rfl⟩
instance :bM Tryz.prog 67:=⟨by kernel_rfl⟩
instance :bM Tryz.prog 69:=⟨by kernel_rfl⟩
instance :bM Tryz.prog 70:=⟨by kernel_rfl⟩
instance :bM Tryz.prog 71:=⟨by kernel_rfl⟩
instance :bM Tryz.prog 72:=⟨by kernel_rfl⟩
instance :bM Tryz.prog 73:=⟨by kernel_rfl⟩
instance :bM Tryz.prog 74:=⟨by kernel_rfl⟩
instance :bM Tryz.prog 75:=⟨by kernel_rfl⟩
instance :bM Tryz.prog 76:=⟨by kernel_rfl⟩
instance :bM Tryz.prog 77:=⟨by kernel_rfl⟩
instance :bM Tryz.prog 78:=⟨by kernel_rfl⟩
instance :bM Tryz.prog 84:=⟨by kernel_rfl⟩
instance :bM Tryz.prog 85:=⟨by kernel_rfl⟩
instance :bM Tryz.prog 105:=⟨by kernel_rfl⟩
instance :bM Tryz.prog 106:=⟨by kernel_rfl⟩
instance :bM Tryz.prog 107:=⟨by kernel_rfl⟩
instance :bM Tryz.prog 108:=⟨by kernel_rfl⟩
instance :bM Tryz.prog 109:=⟨by kernel_rfl⟩
instance :bM Tryz.prog 110:=⟨by kernel_rfl⟩
instance :bM Tryz.prog 111:=⟨by kernel_rfl⟩
instance :bM Tryz.prog 112:=⟨by kernel_rfl⟩
instance :bM Tryz.prog 113:=⟨by kernel_rfl⟩
instance :bM Tryz.prog 114:=⟨by kernel_rfl⟩
instance :bM Tryz.prog 115:=⟨by kernel_rfl⟩
instance :bM Tryz.prog 116:=⟨by kernel_rfl⟩
instance :bM Tryz.prog 117:=⟨by kernel_rfl⟩
instance :bM Tryz.prog 118:=⟨by kernel_rfl⟩
instance :bM Tryz.prog 119:=⟨by kernel_rfl⟩
instance :bM Tryz.prog 120:=⟨by kernel_rfl⟩
instance :bM Tryz.prog 121:=⟨by kernel_rfl⟩
instance :bM Tryz.prog 122:=⟨by kernel_rfl⟩
instance :bM Tryz.prog 123:=⟨by kernel_rfl⟩
instance :bM Tryz.prog 124:=⟨by kernel_rfl⟩
instance :bM Tryz.prog 125:=⟨by kernel_rfl⟩
instance :bM Tryz.prog 126:=⟨by kernel_rfl⟩
instance :bM Tryz.prog 127:=⟨by kernel_rfl⟩
instance :bM Tryz.prog 128:=⟨by kernel_rfl⟩
instance :bM Tryz.prog 129:=⟨by kernel_rfl⟩
instance :bM Tryz.prog 130:=⟨by kernel_rfl⟩
instance :bM Tryz.prog 131:=⟨by kernel_rfl⟩
instance :bM Tryz.prog 132:=⟨by kernel_rfl⟩
instance :bM Tryz.prog 133:=⟨by kernel_rfl⟩
instance :bM Tryz.prog 134:=⟨by kernel_rfl⟩
instance :bM Tryz.prog 135:=⟨by kernel_rfl⟩
instance :bM Tryz.prog 136:=⟨by kernel_rfl⟩
instance :bM Tryz.prog 137:=⟨by kernel_rfl⟩
instance :bM Tryz.prog 138:=⟨by kernel_rfl⟩
instance :bM Tryz.prog 139:=⟨by kernel_rfl⟩
instance :bM Tryz.prog 140:=⟨by kernel_rfl⟩
instance :bM Tryz.prog 141:=⟨by kernel_rfl⟩
instance :bM Tryz.prog 142:=⟨by kernel_rfl⟩
instance :bM Tryz.prog 143:=⟨by kernel_rfl⟩
instance :bM Tryz.prog 144:=⟨by kernel_rfl⟩
instance :bM Tryz.prog 145:=⟨by kernel_rfl⟩
instance :bM Tryz.prog 146:=⟨by kernel_rfl⟩
instance :bM Tryz.prog 147:=⟨by kernel_rfl⟩
instance :bM Tryz.prog 148:=⟨by kernel_rfl⟩
instance :bM Tryz.prog 149:=⟨by kernel_rfl⟩
instance :bM Tryz.prog 150:=⟨by kernel_rfl⟩
instance :bM Tryz.prog 151:=⟨by kernel_rfl⟩
instance :bM Tryz.prog 152:=⟨by kernel_rfl⟩
instance :bM Tryz.prog 153:=⟨by kernel_rfl⟩
instance :bM Tryz.prog 154:=⟨by kernel_rfl⟩
instance :bM Tryz.prog 155:=⟨by kernel_rfl⟩
instance :bM Tryz.prog 156:=⟨by kernel_rfl⟩
instance :bM Tryz.prog 157:=⟨by kernel_rfl⟩
instance :bM Tryz.prog 158:=⟨by kernel_rfl⟩
instance :bM Tryz.prog 159:=⟨by kernel_rfl⟩
instance :bM Tryz.prog 160:=⟨by kernel_rfl⟩
instance :bM Tryz.prog 161:=⟨by kernel_rfl⟩
instance :bM Tryz.prog 162:=⟨by kernel_rfl⟩
instance :bM Tryz.prog 163:=⟨by kernel_rfl⟩
instance :bM Tryz.prog 164:=⟨by kernel_rfl⟩
instance :bM Tryz.prog 165:=⟨by kernel_rfl⟩
instance :bM Tryz.prog 166:=⟨by kernel_rfl⟩
instance :bM Tryz.prog 167:=⟨by kernel_rfl⟩
instance :bM Tryz.prog 168:=⟨by kernel_rfl⟩
instance :bM Tryz.prog 169:=⟨by kernel_rfl⟩
instance :bM Tryz.prog 170:=⟨by kernel_rfl⟩
instance :bM Tryz.prog 171:=⟨by kernel_rfl⟩
instance :bM Tryz.prog 172:=⟨by kernel_rfl⟩
instance :bM Tryz.prog 173:=⟨by kernel_rfl⟩
instance :bM Tryz.prog 174:=⟨by kernel_rfl⟩
instance :bM Tryz.prog 175:=⟨by kernel_rfl⟩
instance :bM Tryz.prog 176:=⟨by kernel_rfl⟩
instance :bM Tryz.prog 177:=⟨by kernel_rfl⟩
instance :bM Tryz.prog 178:=⟨by kernel_rfl⟩
instance :bM Tryz.prog 179:=⟨by kernel_rfl⟩
instance :bM Tryz.prog 180:=⟨by kernel_rfl⟩
instance :bM Tryz.prog 181:=⟨by kernel_rfl⟩
instance :bM Tryz.prog 182:=⟨by kernel_rfl⟩
instance :bM Tryz.prog 183:=⟨by kernel_rfl⟩
instance :bM Tryz.prog 184:=⟨by kernel_rfl⟩
instance :bM Tryz.prog 186:=⟨by kernel_rfl⟩
instance :bM Tryz.prog 187:=⟨by kernel_rfl⟩
instance :bM Tryz.prog 189:=⟨by kernel_rfl⟩
instance :bM Tryz.prog 191:=⟨by kernel_rfl⟩
instance :bM Tryz.prog 192:=⟨by kernel_rfl⟩
instance :bM Tryz.prog 193:=⟨by kernel_rfl⟩
instance :bM Tryz.prog 221:=⟨by kernel_rfl⟩
instance :bM Tryz.prog 222:=⟨by kernel_rfl⟩
instance :bM Tryz.prog 223:=⟨by kernel_rfl⟩
instance :bM Tryz.prog 224:=⟨by kernel_rfl⟩
instance :bM Tryz.prog 225:=⟨by kernel_rfl⟩
instance :bM Tryz.prog 226:=⟨by kernel_rfl⟩
instance :bM Tryz.prog 227:=⟨by kernel_rfl⟩
instance :bM Tryz.prog 228:=⟨by kernel_rfl⟩
instance :bM Tryz.prog 229:=⟨by kernel_rfl⟩
instance :bM Tryz.prog 230:=⟨by kernel_rfl⟩
instance :bM Tryz.prog 231:=⟨by kernel_rfl⟩
instance :bM Tryz.prog 232:=⟨by kernel_rfl⟩
instance :bM Tryz.prog 233:=⟨by kernel_rfl⟩
instance :bM Tryz.prog 234:=⟨by kernel_rfl⟩
instance :bM Tryz.prog 235:=⟨by kernel_rfl⟩
instance :bM Tryz.prog 236:=⟨by kernel_rfl⟩
instance :bM Tryz.prog 237:=⟨by kernel_rfl⟩
instance :bM Tryz.prog 238:=⟨by kernel_rfl⟩
instance :bM Tryz.prog 239:=⟨by kernel_rfl⟩
instance :bM Tryz.prog 240:=⟨by kernel_rfl⟩
instance :bM Tryz.prog 241:=⟨by kernel_rfl⟩
instance :bM Tryz.prog 242:=⟨by kernel_rfl⟩
instance :bM Tryz.prog 243:=⟨by kernel_rfl⟩
instance :bM Tryz.prog 246:=⟨by kernel_rfl⟩
instance :bM Tryz.prog 247:=⟨by kernel_rfl⟩
instance :bM Tryz.prog 248:=⟨by kernel_rfl⟩
instance :bM Tryz.prog 249:=⟨by kernel_rfl⟩
instance :bM Tryz.prog 250:=⟨by kernel_rfl⟩
instance :bM Tryz.prog 251:=⟨by kernel_rfl⟩
instance :bM Tryz.prog 252:=⟨by kernel_rfl⟩
instance :bM Tryz.prog 253:=⟨by kernel_rfl⟩
instance :bM Tryz.prog 254:=⟨by kernel_rfl⟩
instance :bM Tryz.prog 255:=⟨by kernel_rfl⟩
instance :bM Tryz.prog 256:=⟨by kernel_rfl⟩
instance :bM Tryz.prog 257:=⟨by kernel_rfl⟩
instance :bM Tryz.prog 258:=⟨by kernel_rfl⟩
instance :bM Tryz.prog 259:=⟨by kernel_rfl⟩
instance :bM Tryz.prog 260:=⟨by kernel_rfl⟩
instance :bM Tryz.prog 262:=⟨by kernel_rfl⟩
instance :bM Tryz.prog 263:=⟨by kernel_rfl⟩
instance :bM Tryz.prog 264:=⟨by kernel_rfl⟩
instance :bM Tryz.prog 265:=⟨by kernel_rfl⟩
instance :bM Tryz.prog 266:=⟨by kernel_rfl⟩
instance :bM Tryz.prog 267:=⟨by kernel_rfl⟩
instance :bM Tryz.prog 268:=⟨by kernel_rfl⟩
instance :bM Tryz.prog 270:=⟨by kernel_rfl⟩
instance :bM Tryz.prog 278:=⟨by kernel_rfl⟩
instance :bM Tryz.prog 279:=⟨by kernel_rfl⟩
instance :bM Tryz.prog 297:=⟨by kernel_rfl⟩
instance :bM Tryz.prog 298:=⟨by kernel_rfl⟩
instance :bM Tryz.prog 299:=⟨by kernel_rfl⟩
instance :bM Tryz.prog 300:=⟨by kernel_rfl⟩
instance :bM Tryz.prog 301:=⟨by kernel_rfl⟩
instance :bM Tryz.prog 302:=⟨by kernel_rfl⟩
instance :bM Tryz.prog 314:=⟨by kernel_rfl⟩
instance :bM Tryz.prog 315:=⟨by kernel_rfl⟩
instance :bM Tryz.prog 316:=⟨by kernel_rfl⟩
instance :bM Tryz.prog 317:=⟨by kernel_rfl⟩
instance :bM Tryz.prog 319:=⟨by kernel_rfl⟩
instance :bM Tryz.prog 323:=⟨by kernel_rfl⟩
instance :bM Tryz.prog 324:=⟨by kernel_rfl⟩
instance :bM Tryz.prog 342:=⟨by kernel_rfl⟩
end Go.Proofs
namespace Go.SL
open Go
theorem aH.over {md fp:List Nat} {a b c:World} (h:aH md a b) (hf:∀ x∈fp,x∈md∨a.heap.size≤x) (k:aH fp b c):aH md a c:=
 ⟨k.os.trans h.os,k.tape.trans h.tape,k.output.trans h.output,ZY h.dr k.dr,ZY h.size k.size,fun i hi hm=>by
  rw [← h.block i hi hm]
  exact k.block i (Zay hi h.size) (fun hx=>by
   rcases hf i hx with h1 | h1
   ·exact hm h1
   ·omega)⟩
def Out (md:List Nat) (v:Value) (xs:List (List Value)):Prop:=xs≠[]→∀ b,v.ownBlock=some b→b ∉ md
theorem Out.nil (v:Value) (xs:List (List Value)):Out [] v xs:=fun _ _ _ h=>by cases h
theorem Rd.jw {md:List Nat} {w w':World} {v:Value} {sz:Nat} {xs:List (List Value)} (h:Rd w v sz xs) (hn:Out md v xs) (hk:aH md w w'):Rd w' v sz xs:=by
 obtain ⟨a,cap,b,o,rfl,h2,GL,h3,h4⟩:=h
 refine ⟨a,cap,b,o,rfl,h2,GL,h3,fun i r hr=>⟨(h4 i r hr).1,fun j u hu=>?_⟩⟩
 have:=(h4 i r hr).2 j u hu
 have hb:=World.block_lt_of_cell? w _ this
 have hne:xs≠[]:=by rintro rfl;simp at hr
 rw [← this]
 simp only [World.cell?]
 rw [hk.block b hb (hn hne b (by rw [h3 hne];rfl))]
theorem Rd.out {md fp:List Nat} {w0:World} {v:Value} {sz:Nat} {xs:List (List Value)} (h:Rd w0 v sz xs) (hsz:0<sz) (hn:Out md v xs) (hF:∀ b∈fp,b∈md∨w0.heap.size≤b):Out fp v xs:=fun hne b hb NO=>by
 obtain ⟨a,cap,b',o,rfl,h2,GL,h3,h4⟩:=h
 have ha:=h3 hne
 subst ha
 have:b'=b:=by simpa [Value.ownBlock] using hb
 subst this
 obtain ⟨r,rs,rfl⟩:=List.exists_cons_of_ne_nil hne
 obtain ⟨hl,hc⟩:=h4 0 r rfl
 obtain ⟨u,us,rfl⟩:=List.exists_cons_of_ne_nil (l:=r) (by rintro rfl;simp at hl;omega)
 have aK:=World.block_lt_of_cell? w0 _ (hc 0 u rfl)
 rcases hF b' NO with h | h
 ·exact hn hne b' hb h
 ·exact absurd aK (by simp;omega)
theorem eF.Cr {c:Cx} {hs:List a8} {b o:Nat} {vs:List Value} (h:∀ (j:Nat) (u:Value),vs[j]? = some u→c.w0.cell? ⟨b,o+j,none⟩=some u) (GA:b ∉ c.md):eF c hs b o vs:=
 eF.uT fun j v hv=>At.Cr (h j v hv) GA
def Au (P:Program) (l:Nat) (args:List Value) (w0:World) (md:List Nat) (pre:a8) (post:Bool→a8):Prop:=
 ∀ W fp, aH md w0 W → (∀ b ∈ fp, b ∈ md ∨ w0.heap.size ≤ b) → fp.Nodup → pre.sat (hp W) fp → ∃ f tmps Eg body, (Instr.yield l args.toArray).run P W = .ok (.round l f tmps Eg body) W ∧
  RoundIn (FR none) 0 P l f tmps Eg body W (oP fp W post)
def Iter (P:Program) (f:FuncId) (first cap:List Value) (own:List a8) (items:List (List Value)) (w0:World) (md:List Nat) (w:World):Prop:=
 ∀ (l : Nat) (fp : List Nat) (J : Nat → a8) (E : a8), aH md w0 w → (∀ b ∈ fp, b ∈ md ∨ w0.heap.size ≤ b) → fp.Nodup → ch (hp w) (J 0 :: own) fp →
  (∀ k vs,items[k]? = some vs→Au P l vs w0 md (J k) (fun b=>bif b then J (k+1) else E)) →
  bh P f (first++[.func (.yield l) #[] #[]]++cap) w fp (fun _:Bool=>True) (fun _=>.tuple #[]) (fun b=>(bif b then J items.length else E)::own)
section
variable {P:Program} {r:Option Nat} {c:Cx} {D:List Nat} {sl:aG} {hs hs':List a8} {Q:Exit→Act→World→Prop} {ι κ:Type}
variable {ops:Array Oper} {d:Nat} {ty:TypeId} {pos:String} {af:Array Edge} {rest:List Oper}
theorem xj {x:Operand} {xs:List Operand} {ts:Array TypeId} {l:Nat} {w0:World} {md:List Nat} {vs:List Value} {pre:a8} {post:Bool→a8} (hB:aH md w0 c.w0) (hF:∀ b∈c.md,b∈md∨w0.heap.size≤b) (hy:Au P l vs w0 md pre post)
  (hx:Is sl x (.func (.yield l) #[] #[])) (ha:G7 sl xs vs) (hd:Nat.blt d c.nt=true) (ht:Take hs pre hs')
  (k:∀ b,Tr c D ((d,.bool b)::sl) (post b::hs') (WL P r ops Q rest)):Tr c D sl hs (WL P r ops Q (⟨some d,.call ⟨.value x,xs.toArray,ts⟩,ty,pos,af,none⟩::rest)):=fun a w bb=>by
 have hm:=bb.mem.take (ht.append _)
 obtain ⟨kk,fp,hn,⟨f1,f2,rfl,h1,h2⟩,hb⟩:=hm
 obtain ⟨f,tmps,Eg,body,iu,Ri⟩:=hy w f1 (hB.over hF kk) (fun b dA=>by
  rcases hb b (ZE _ dA) with h | h
  ·exact .inr (ZY hB.size h)
  ·exact hF b h) (ZF.1 hn).1 h1
 refine mi rfl ⟨dM _ _ _ _ _,?_⟩
 rw [Oper.semAt_eq _ _ _ (by simp)]
 have:(execOp a.eval ⟨some d,.call ⟨.value x,xs.toArray,ts⟩,ty,pos,af,none⟩).run P w=.ok (.round l f tmps Eg body) w:=by
  simp only [execOp,resolve,hx a bb.cS,Deferred.ofValue,Sem.run_bind,Sem.run_pure,Result.andThen_ok,invoke,List.map_toArray,ha.map bb.cS]
  simpa using iu
 rw [this]
 refine ⟨by simp [FR,Fence.wide],(F4 Ri).mono fun e w' ⟨b,he,hk,lD,tX,hs1,yh⟩=>?_⟩
 subst he
 refine k b _ _ ((bb.put (by simpa [Z4] using hd) (.bool b)).heap ?_)
 obtain ⟨n1,n2,n12⟩:=ZF.1 hn
 have aK:∀ b∈f2,b<w.heap.size:=fun b dA=>let ⟨o,ho⟩:=h2.own b dA;j5 ho
 refine ⟨?_,lD++f2,?_,⟨lD,f2,rfl,hs1,h2.loc fun b dA=>?_⟩,?_⟩
 ·refine ⟨hk.os.trans kk.os,hk.tape.trans kk.tape,hk.output.trans kk.output,ZY kk.dr hk.dr,ZY kk.size hk.size,fun b dA hm=>?_⟩
  rw [← kk.block b dA hm]
  refine hk.block b (Zay dA kk.size) (fun hf=>?_)
  rcases hb b (ZE _ hf) with h | h
  ·omega
  ·exact hm h
 ·refine ZF.2 ⟨tX,n2,fun x hx y hy e=>?_⟩
  subst e
  rcases yh x hx with h | h
  ·exact n12 x h x hy rfl
  ·have:=aK x hy;omega
 ·exact hk.block b (aK b dA) (fun hf=>n12 b hf b dA rfl)
 ·intro b dA
  rcases Zx.1 dA with h | h
  ·rcases yh b h with h | h
   ·exact hb b (ZE _ h)
   ·exact .inl (ZY kk.size h)
  ·exact hb b (ZS _ h)
theorem CO {l:Nat} {rc:Loop} {nt:Nat} {vs:List Value} {w0:World} {md:List Nat} {Φ:ι→Prop} {A:ι→List a8} {post:Bool→a8} {WT:aG} (ve:bR WT ⟨rc.tmps,[]⟩) (hn:rc.tmps.size=nt) (hlen:vs.length=rc.params.size) (hps:∀ t∈rc.params.toList,t<nt)
  (h:∀ x W fp,aH md w0 W→(∀ b∈fp,b∈md∨w0.heap.size≤b)→Φ x→Tr ⟨W,fp,nt⟩ [] (l5 (rc.params.toList.zip vs) WT) (bG l (fU rc .ready none)::A x) (WP P (some l) rc.assign (Exit.then (Em P l rc.body (oP fp W post)) (fun _ _ _=>False)))) :
  Au P l vs w0 md (N8 Φ fun x=>bG l (fU rc .ready none)::A x) post:=by
 rintro W fp hB hF kU ⟨x,hx,ir⟩
 have iv:Mem ⟨W,fp,nt⟩ (bG l (fU rc .ready none)::A x) W:=⟨.refl _ _,fp,kU,ir,fun b hb=>.inr hb⟩
 have hb:W.heap[l]? = some (fU rc .ready none):=iv.bG .here
 have hy:=run_yield (P:=P) (w:=W) (l:=l) (r:={ rc with state:=.ready,pending:=none }) (args:=vs.toArray) hb (by simpa using hlen)
 refine ⟨_,_,_,_,hy,?_⟩
 refine roundIn_of_wpIn trivial ?_
 obtain ⟨g1,g2⟩:=xM (rc.params.toList.zip vs) WT rc.tmps ve hn (fun p hp=>hps p.1 (by
  obtain ⟨t,v⟩:=p
  exact (List.of_mem_zip hp).1))
 have UX:((rc.params.zip vs.toArray).foldl (fun tmps (x:Nat×Value)=>tmps.setIfInBounds x.1 x.2) rc.tmps)=(rc.params.toList.zip vs).foldl (fun (t:Array Value) p=>t.setIfInBounds p.1 p.2) rc.tmps:=by
  rw [← Array.foldl_toList]
  simp
 have:=h x W fp hB hF hx ⟨(rc.params.toList.zip vs).foldl (fun (t:Array Value) p=>t.setIfInBounds p.1 p.2) rc.tmps,[]⟩ W ⟨by simpa [mw] using iv,g1,g2,rfl⟩
 rw [← UX] at this
 exact this
def pn (l:Nat) (rc:Loop) (Φ:Nat→ι→Prop) (A:ι→List a8) (Ψ:κ→Prop) (B:κ→List a8) (pd:κ→Code) (k:Nat) (b:Bool):a8:=
 bif b then N8 (Φ k) (fun x=>bG l (fU rc .ready none)::A x) else N8 Ψ (fun y=>bG l (fU rc .done (some (pd y)))::B y)
theorem jh {g:Operand} {ps:List Tmp} {Eg body:Code} {f:FuncId} {first cap:List Value} [bM P f] (hg:Is sl g (.func (.func f) first.toArray cap.toArray))
  (own:List a8) (items:List (List Value)) (hit:∀ w,Mem c hs w→Iter P f first cap own items c.w0 c.md w)
  (Φ:Nat→ι→Prop) (A:ι→List a8) (Ψ:κ→Prop) (B:κ→List a8) (pd:κ→Code) (x0:ι) {rst:List a8} (h0:Φ 0 x0) (ht:bz hs (A x0++own) rst)
  (hlen:∀ vs∈items,vs.length=ps.length) (hps:∀ t∈ps,t<c.nt)
  (round:∀ l rc W fp k x vs,rc.tmps.size=c.nt→items[k]? = some vs→Φ k x→aH c.md c.w0 W→(∀ b∈fp,b∈c.md∨c.w0.heap.size≤b) →
   Tr ⟨W,fp,c.nt⟩ [] (l5 (ps.zip vs) sl) (bG l (fU rc .ready none)::A x) (WP P (some l) Eg (Exit.then (Em P l body (oP fp W (pn l rc Φ A Ψ B pd (k+1)))) (fun _ _ _=>False))))
  (kn:∀ x D,Φ items.length x→Tr c D sl (A x++own++rst) (Q .normal))
  (kj:∀ y D,Ψ y→Tr c D sl (B y++own++rst) (WP P none (pd y) Q)) :
  Tr c D sl hs (WP P none (.rangeFunc g ps.toArray Eg body) Q):=by
 refine yL (ι:=ι ⊕ κ) hg (As:=fun l rc=>bG l (fU rc .ready none)::(A x0++own)) (rest:=rst)
  (Φ:=fun l rc x=>match x with | .inl x=>Φ items.length x | .inr y=>Ψ y) (own:=fun l rc x=>match x with | .inl x=>A x++own | .inr y=>B y++own)
  (st:=fun x=>match x with | .inl _=>.ready | .inr _=>.done) (pd:=fun x=>match x with | .inl _=>none | .inr y=>some (pd y)) ?_ ?_ ?_ ?_ ?_
 ·exact fun l rc=>bz.cons .here ht
 ·rintro (x | y) <;> simp
 ·intro l rc Rn ha S2 ve hsz w fp hm hn hs1 GD
  have Yn:∀ b∈fp,b∈c.md∨c.w0.heap.size≤b:=fun b hb=>(GD b hb).symm
  have hs2:ch (hp w) (N8 (Φ 0) (fun x=>bG l (fU rc .ready none)::A x)::own) fp:=by
   rw [← Zb] at hs1
   obtain ⟨f1,f2,rfl,h1,h2⟩:=ch.append_iff.1 hs1
   exact ⟨f1,f2,rfl,⟨x0,h0,h1⟩,h2⟩
  refine (hit w hm.vw l fp (fun k=>N8 (Φ k) (fun x=>bG l (fU rc .ready none)::A x)) (N8 Ψ (fun y=>bG l (fU rc .done (some (pd y)))::B y)) hm.keeps Yn hn hs2 ?_).mono ?_
  ·intro k vs hk
   refine CO (post:=pn l rc Φ A Ψ B pd (k+1)) ve hsz (by rw [Rn];simpa using hlen vs (ZW hk)) (by rw [Rn];simpa using hps) ?_
   intro x W Vs hB hF hx
   have:=round l rc W Vs k x vs hsz hk hx hB hF
   rw [ha,S2,Rn]
   simpa using this
  ·rintro e w' ⟨b,he,_,hk,lD,tX,hs',yh⟩
   obtain ⟨f1,f2,rfl,h1,h2⟩:=hs'
   cases b with
   | true =>
    obtain ⟨x,hx,h1⟩:=h1
    exact ⟨.inl x,he,hx,hk,f1++f2,tX,by
     show ch _ (bG l (fU rc .ready none)::(A x++own)) _
     rw [← Zb]
     exact ch.append_iff.2 ⟨f1,f2,rfl,h1,h2⟩,yh⟩
   | false =>
    obtain ⟨y,hy,h1⟩:=h1
    exact ⟨.inr y,he,hy,hk,f1++f2,tX,by
     show ch _ (bG l (fU rc .done (some (pd y)))::(B y++own)) _
     rw [← Zb]
     exact ch.append_iff.2 ⟨f1,f2,rfl,h1,h2⟩,yh⟩
 ·rintro l rc (x | y) b hx Rp
  ·exact kn x (b::D) hx
  ·simp at Rp
 ·rintro l rc (x | y) b j hx Rp
  ·simp at Rp
  ·simp only [Option.some.injEq] at Rp;subst Rp
   exact kj y (b::D) hx
def yz (c:Cx) (Φ:ι→Prop) (sI:ι→aG) (hI:ι→List a8) (μ:ι→Nat) (i:ι):Act→World→Prop:=fun a w=>∃ D j,Φ j∧μ j<μ i∧St c D (sI j) (hI j) a w
def vS (c:Cx) (Φ:ι→Prop) (sI:ι→aG) (hI:ι→List a8):Act→World→Prop:=fun a w=>∃ D i,Φ i∧St c D (sI i) (hI i) a w
theorem Ev {x:Code} (Φ:ι→Prop) (sI:ι→aG) (hI:ι→List a8) (μ:ι→Nat)
  (h0:Tr c D sl hs (vS c Φ sI hI))
  (round:∀ i,Φ i→∀ D,Tr c D (sI i) (hI i) (WP P r x (Exit.then (yz c Φ sI hI μ i) Q))) :
  Tr c D sl hs (WP P r (.loop x) Q):=fun a w bb=>by
 let fits:Act→World→Nat→Prop:=fun a w n=>∃ D i,Φ i∧μ i=n∧St c D (sI i) (hI i) a w
 have least:∀ a w,(∃ n,fits a w n)→∃ n,fits a w n∧∀ m,fits a w m→n≤m:=by
  intro a w ⟨n,hn⟩
  induction n using Nat.strongRecOn with
  | _ n ih =>
   by_cases h:∃ m,m<n∧fits a w m
   ·obtain ⟨m,hm,hf⟩:=h
    exact ih m hm hf
   ·exact ⟨n,hn,fun m hm=>ZaQ fun aK=>h ⟨m,aK,hm⟩⟩
 let M:Act→World→Nat:=fun a w=>Classical.epsilon fun n=>fits a w n∧∀ m,fits a w m→n≤m
 have hM:∀ a w,(∃ n,fits a w n)→fits a w (M a w)∧∀ m,fits a w m→M a w≤m:=fun a w h=>Classical.epsilon_spec (least a w h)
 refine wpIn_loop (fun a w=>∃ n,fits a w n) M ?_ ?_
 ·obtain ⟨D,i,hi,hs⟩:=h0 a w bb
  exact ⟨μ i,D,i,hi,rfl,hs⟩
 ·intro a w hI
  obtain ⟨⟨D,i,hi,hm,hs⟩,_⟩:=hM a w hI
  refine wpIn_mono (round i hi D a w hs) fun e a' w' h=>?_
  cases e with
  | normal =>
   obtain ⟨D',j,hj,aK,hs'⟩:=h
   have hf:fits a' w' (μ j):=⟨D',j,hj,rfl,hs'⟩
   exact ⟨⟨_,hf⟩,Nat.lt_of_le_of_lt ((hM a' w' ⟨_,hf⟩).2 _ hf) (by rw [← hm];exact aK)⟩
  | _=>exact h
theorem AW {Φ:ι→Prop} {sI:ι→aG} {hI:ι→List a8} {μ:ι→Nat} {i:ι} (j:ι) {rest:List a8} (hΦ:Φ j) (hμ:μ j<μ i) (hs1:lx sl (sI j)) (ht:bz hs (hI j) rest):Tr c D sl hs (yz c Φ sI hI μ i):=
 fun a w bb=>⟨D,j,hΦ,hμ,bb.weaken hs1 ht⟩
theorem xk {Φ:ι→Prop} {sI:ι→aG} {hI:ι→List a8} (j:ι) {rest:List a8} (hΦ:Φ j) (hs1:lx sl (sI j)) (ht:bz hs (hI j) rest):Tr c D sl hs (vS c Φ sI hI):=
 fun a w bb=>⟨D,j,hΦ,bb.weaken hs1 ht⟩
theorem lJ {nt:Nat} {W:World} {fp:List Nat} {l:Nat} {rc:Loop} {Φ:Nat→ι→Prop} {A:ι→List a8} {Ψ:κ→Prop} {B:κ→List a8} {pd:κ→Code} {k:Nat} {s:LoopState} {p:Option Code} (x:ι) {rst MI:List a8}
  (ht:Take hs (bG l (fU rc s p)) rst) (hx:Φ k x) (h2:bz rst (A x) MI):Tr ⟨W,fp,nt⟩ D sl hs (roundPost P l (oP fp W (pn l rc Φ A Ψ B pd k)) .normal):=
 FT (c:=⟨W,fp,nt⟩) (post:=pn l rc Φ A Ψ B pd k) x rfl ht hx (bz.cons .here h2)
theorem Me {nt:Nat} {W:World} {fp:List Nat} {l:Nat} {rc:Loop} {Φ:Nat→ι→Prop} {A:ι→List a8} {Ψ:κ→Prop} {B:κ→List a8} {pd:κ→Code} {k:Nat} {s:LoopState} {p:Option Code} (y:κ) {rst MI:List a8}
  (Rp:pd y=.ret) (ht:Take hs (bG l (fU rc s p)) rst) (hy:Ψ y) (h2:bz rst (B y) MI):Tr ⟨W,fp,nt⟩ D sl hs (roundPost P l (oP fp W (pn l rc Φ A Ψ B pd k)) .ret):=by
 refine FQ (c:=⟨W,fp,nt⟩) (post:=pn l rc Φ A Ψ B pd k) (Φ:=Ψ) (A:=fun y=>bG l (fU rc .done (some (pd y)))::B y) y (rest:=MI) rfl ht hy ?_
 rw [Rp];exact bz.cons .here h2
end
end Go.SL
namespace Go.SL
open Go
theorem tC {α:Type} {zs:List α} {n i:Nat} (h0:0<zs.length) (hi:i<n*zs.length):(List.replicate n zs).flatten[i]? = zs[i % zs.length]?:=by
 induction n generalizing i with
 | zero=>omega
 | succ n ih =>
  rw [List.replicate_succ,ZaB,List.getElem?_append]
  split
  ·rw [Nat.mod_eq_of_lt (by assumption)]
  ·rw [ih (by rw [Zag] at hi;omega),Nat.mod_eq_sub_mod (a:=i) (by omega)]
theorem uX {z:Array Value} {n:Nat} (h0:0<z.size):(madeCells z (n*z.size))=(List.replicate n z.toList).flatten.toArray:=by
 apply Array.ext'
 apply Zap
 intro i
 rw [ZaC]
 by_cases hi:i<n*z.size
 ·have:=tC (zs:=z.toList) (n:=n) (i:=i) (by simpa using h0) (by simpa using hi)
  rw [this]
  simp [madeCells,hi,Nat.mod_lt _ h0]
 ·rw [Zbt (by simp [size_madeCells];omega),Zaf (by simp;omega)]
section
variable {P:Program} {c:Cx} {sl:aG} {hs:List a8} {dst:Option Tmp} {ty:TypeId} {pos:String} {af:Array Edge} {g:Option (Nat×Bool)}
theorem MO {t e:TypeId} {agg:Bool} {size bytes l cp:Nat} {z:Value} {x y:Operand} {kx ky:IntKind} [hu:iF P t (.slice e)] [hT:Ty P e agg size] [hZ:lF P e z] [hB:ug P e bytes]
  (hx:Is sl x (.int kx l)) (hy:Is sl y (.int ky cp)) (hl:l≤cp) (hb:bytes*cp≤281474976710656) (hz:z.cells.size=size) (hsz:Nat.blt 0 size=true) (h63:cp≤9223372036854775807) :
  qD P c sl hs ⟨dst,.makeSlice t x y,ty,pos,af,g⟩ (fun b=>.slice (some ⟨b,0,none⟩) l cp) (.cells (List.replicate cp z.cells.toList).flatten.toArray e (0,0)):=
 ⟨by simp,fun a w ha _=>by
  obtain ⟨de,i,mh,hi,_,iD⟩:=Ty.parts (P:=P) (t:=e) (agg:=agg) (n:=size)
  have hzero:i.zero=some z:=by have:=hZ.eq;rw [hi] at this;simpa using this
  have gI:i.bytes=bytes:=by have:=hB.eq;rw [hi] at this;simpa using this
  have hs0:0<size:=by simpa [Z4] using hsz
  have:=run_make (P:=P) w t e i z hu.eq hi hzero kx ky l cp (by omega) (by omega) (by rw [gI];omega) (by omega)
  have e1:=uX (z:=z.cells) (n:=cp) (by omega)
  rw [hz] at e1
  simp only [execOp,hx a ha,hy a ha]
  refine (by rw [Sem.run_bind,this];simp only [ZG,iD,e1];rfl)⟩
end
end Go.SL
namespace Go.SL
open Go
def sD (n:Nat) (f:Nat→List Value):List Value:=((List.range n).map f).flatten
theorem gX {n sz:Nat} {f:Nat→List Value} (hf:∀ i,i<n→(f i).length=sz):(sD n f).length=n*sz:=by
 unfold sD
 induction n with
 | zero=>simp
 | succ n ih =>
  rw [List.range_succ,Zr,Zab,Zg,ih (fun i h=>hf i (by omega))]
  simp [hf n (by omega),Zag]
theorem yU {n sz i j:Nat} {f:Nat→List Value} (hf:∀ i,i<n→(f i).length=sz) (hi:i<n) (hj:j<sz):(sD n f)[i*sz+j]? = (f i)[j]?:=by
 have hl:=hf i hi
 obtain ⟨u,hu⟩:∃ u,(f i)[j]? = some u:=⟨(f i)[j]'(by omega),Zc (by omega)⟩
 rw [hu]
 exact oF _ i (fun r hr=>by obtain ⟨k,hk,rfl⟩:=Zu.1 hr;exact hf k (ZT.1 hk)) (by simp [hi]) hu
theorem mn {n:Nat} {f g:Nat→List Value} (h:∀ i,i<n→f i=g i):sD n f=sD n g:=by
 unfold sD
 congr 1
 exact Zbp fun i hi=>h i (ZT.1 hi)
theorem ij:∀ (vs cs:List Value) (o k:Nat),o+vs.length≤cs.length→(setCells cs o vs)[k]? = if o≤k∧k<o+vs.length then vs[k-o]? else cs[k]?
 | [], cs, o, k, _ => by
  rw [if_neg (by simp only [Zaa];omega)];rfl
 | v :: vs, cs, o, k, h => by
  simp only [ZJ] at h ⊢
  rw [setCells,ij vs _ (o+1) k (by simp;omega)]
  by_cases h1:o+1≤k∧k<o+1+vs.length
  ·rw [if_pos h1,if_pos (by omega),show k-o=(k-(o+1))+1 by omega,ZaV]
  ·rw [if_neg h1]
   by_cases h2:k=o
   ·subst h2
    rw [if_pos (by omega),Nat.sub_self,Zax,List.getElem?_set_self (by omega)]
   ·rw [if_neg (by omega),List.getElem?_set_ne (by omega)]
theorem F0 {n sz k:Nat} (h:k<n*sz):k / sz<n∧k % sz<sz∧k=k / sz*sz+k % sz:=by
 have hs:0<sz:=by
  rcases Nat.eq_zero_or_pos sz with h0 | h0
  ·subst h0;simp at h
  ·exact h0
 refine ⟨Nat.div_lt_of_lt_mul (by rwa [Nat.mul_comm]),Nat.mod_lt _ hs,?_⟩
 have:=Nat.div_add_mod k sz
 rw [Nat.mul_comm] at this
 exact this.symm
theorem Mn {n sz i o:Nat} {f:Nat→List Value} {vs:List Value} (hf:∀ i,i<n→(f i).length=sz) (hi:i<n) (ho:o+vs.length≤sz) :
  setCells (sD n f) (i*sz+o) vs=sD n (fun k=>if k=i then setCells (f i) o vs else f k):=by
 have hm:(i+1)*sz≤n*sz:=Z9 _ hi
 rw [Zag] at hm
 have hg:∀ k,k<n→((fun k=>if k=i then setCells (f i) o vs else f k) k).length=sz:=fun k hk=>by
  show (if k=i then _ else _:List Value).length=sz
  split
  ·rw [ke,hf i hi]
  ·exact hf k hk
 have UM:=gX hf
 have E8:=gX hg
 apply Zap
 intro k
 rw [ij _ _ _ _ (by rw [UM];omega)]
 by_cases hk:k<n*sz
 ·obtain ⟨h1,h2,h3⟩:=F0 hk
  rw [h3,yU hg h1 h2,yU hf h1 h2]
  by_cases e:k / sz=i
  ·rw [e]
   simp only [if_true]
   rw [ij _ _ _ _ (by rw [hf i hi];omega)]
   by_cases h4:o≤k % sz∧k % sz<o+vs.length
   ·rw [if_pos h4,if_pos (by omega),show i*sz+k % sz-(i*sz+o)=k % sz-o by omega]
   ·rw [if_neg h4,if_neg (by omega)]
  ·rw [if_neg]
   ·simp only [if_neg e]
   ·intro ⟨h4,h5⟩
    rcases Nat.lt_or_gt_of_ne e with e | e
    ·have:(k / sz+1)*sz≤i*sz:=Z9 _ e
     rw [Zag] at this;omega
    ·have:(i+1)*sz≤k / sz*sz:=Z9 _ e
     rw [Zag] at this;omega
 ·rw [if_neg (by omega),Zaf (by omega),Zaf (by omega)]
theorem C6 (n:Nat) (f:Nat→List Value):sD n f=((List.range n).map f).flatten:=rfl
theorem At.mF {c:Cx} {hs hs':List a8} {b o:Nat} {cs:List Value} {E:TypeId} {fz:Nat×Nat} {v:Value} (ht:Take hs (SL.bG b (.cells cs.toArray E fz)) hs') (hv:cs[o]? = some v):At c hs b o v:=
 At.bG ht (by simpa using hv)
section
variable {P:Program} {c:Cx} {sl:aG} {hs hs':List a8}
theorem sh {fn:Func} {t u:Tmp} {T:TypeId} {b o n:Nat} {cs vs:List Value} {E:TypeId} {fz:Nat×Nat} {y:Value} (h:fn.results=#[.cell t T,.tmp u]) (hT:Ty P T true n) (hp:cK sl t=some (.pointer (some ⟨b,o,none⟩))) (ht:Take hs (SL.bG b (.cells cs.toArray E fz)) hs') (hv:ed cs o n=vs) (hl:vs.length=n) (hy:cK sl u=some y):Ends P fn c sl hs (.tuple #[.agg vs.toArray,y]):=
 PC (xs:=[.cell t T,.tmp u]) (vs:=[.agg vs.toArray,y]) h (Hg.cons (RV.cell hp (IY (eF.bG ht hv) hl)) (Hg.cons (RV.tmp hy) Hg.nil)) (by simp)
variable {dst:Option Tmp} {ty:TypeId} {pos:String} {af:Array Edge} {g:Option (Nat×Bool)}
theorem bu {t e:TypeId} {agg:Bool} {n size:Nat} {z:Value} {xs:List (Nat×Operand)} {ps:List (Nat×Value)} {zs cs:List Value} {places:List (Nat×Nat)} [hu:iF P t (.slice e)] [hT:Ty P e agg size] [hZ:lF P e z] (hp:vR sl xs ps)
  (hn:Nat.ble (n*size) 1000=true) (XJ:Nat.blt 0 (n*size)=true) (AG:(List.range n).map (fun i=>(i*size,size))=places) (hzs:(List.range (n*size)).map (fun i=>z.cells[i % z.cells.size]!)=zs) (hf:sZ places zs ps=some cs) :
  qD P c sl hs ⟨dst,.buildSlice t n xs.toArray,ty,pos,af,g⟩ (fun b=>.slice (some ⟨b,0,none⟩) n n) (.cells cs.toArray e):=
 lZ (ps:=ps.toArray) (fun a ha=>by have:=hp.map ha;rw [List.map_toArray,this]) (fun w=>by
  have tX:n*size≤1000:=by simpa using hn
  have np:0<n*size:=by simpa [Z4] using XJ
  unfold Instr.buildSlice
  simp only [Sem.run_bind,aU hu.eq,Result.andThen_ok,fT (t:=e) (agg:=agg) (n:=size)]
  rw [if_neg (by omega),if_neg (by omega)]
  simp only [Sem.run_bind,il (t:=e) (v:=z),Result.andThen_ok,Sem.run_pure]
  have h1:(Array.range (n*size)).map (fun i=>z.cells[i % z.cells.size]!)=zs.toArray:=by
   rw [← hzs];apply Array.ext';simp
  have h2:=fill_eq (places:=places) (f:=fun i=>if i<n then some (i*size,size) else none) (fun i x hx=>by
   subst AG
   simp only [ZD,Zah] at hx
   obtain ⟨k,hk,rfl⟩:=hx
   obtain ⟨aK,hk⟩:=Zl.1 hk
   simp only [Zbw] at hk;subst hk
   simp only [ZaL] at aK
   simp [aK]) ps zs cs hf
  have h3:Instr.fill (fun i=>some (i*size,size)) zs.toArray ps=some cs.toArray:=by
   have key:∀ (l:List (Nat×Value)) (cc:Array Value) (r:Array Value),Instr.fill (fun i=>if i<n then some (i*size,size) else none) cc l=some r→Instr.fill (fun i=>some (i*size,size)) cc l=some r:=by
    intro l
    induction l with
    | nil=>intro cc r h;exact h
    | cons x l ih =>
     obtain ⟨i,v⟩:=x
     intro cc r h
     simp only [Instr.fill] at h ⊢
     by_cases hi:i<n
     ·rw [if_pos hi] at h
      simp only at h
      split at h
      ·cases h
      ·rename_i hc
       rw [if_neg hc]
       exact ih _ _ h
     ·rw [if_neg hi] at h;cases h
   exact key ps zs.toArray cs.toArray h2
  rw [h1,h3]
  simp [newRow])
theorem aW {D:List Nat} {X:Act→World→Prop} {E:TypeId} {sz n:Nat} {v:Value} {xs:List Value} (ht:Take hs (row E sz v n xs) hs') (k:∀ a cap,v=.slice a n cap→Tr c D sl hs X):Tr c D sl hs X:=fun a w bb=>by
 obtain ⟨_,fp,_,⟨f1,f2,_,h1,_⟩,_⟩:=bb.rb.take ht
 obtain ⟨_,_,⟨rfl,rfl⟩ | ⟨g,cap,cur,rfl,_⟩⟩:=h1
 ·exact k _ _ rfl a w bb
 ·exact k _ _ rfl a w bb
end
end Go.SL
namespace Go.SL
open Go
def NP (Q:Exit→Act→World→Prop):Exit→Act→World→Prop
 | .panic _=>fun _ _=>False
 | e=>Q e
theorem Oper.uh {F:Fence} {n:Nat} {P:Program} {o:Oper} {a:Act} {w:World} {K K':Act→World→Prop} {Q Q':Exit→Act→World→Prop} (h:∀ a w,K a w→K' a w) (hq:∀ c a w,Q (.panic c) a w→Q' (.panic c) a w) (hl:LetsOut Q→LetsOut Q')
  (hh:o.wpIn F n P a w K Q):o.wpIn F n P a w K' Q':=by
 unfold Oper.wpIn at *
 refine ⟨hh.1,?_⟩
 have hh:=hh.2
 generalize (o.semAt F.round a.eval).run P w=r at *
 cases r with
 | ok x w' =>
  cases x <;> simp only [Oper.uponIn] at hh ⊢ <;>
   first
    | exact h _ _ hh
    | exact ⟨hh.1,CallsIn.mono hh.2 (fun e wh he=>by cases e <;> first | exact h _ _ he | exact hq _ _ _ he | exact hl he | exact he)⟩
    | exact ⟨hh.1,RowsIn.mono hh.2 (fun _ _ he=>h _ _ he)⟩
    | exact ⟨hh.1,RoundIn.mono hh.2 (fun e wh he=>by cases e <;> first | exact h _ _ he | exact hq _ _ _ he | exact hl he | exact he)⟩
 | halt x w'=>cases x <;> simp only [Oper.uponIn] at hh ⊢ <;> first | exact hh | exact hq _ _ _ hh
section
variable {P:Program} {r:Option Nat} {c:Cx} {D:List Nat} {sl:aG} {hs hs':List a8} {Q:Exit→Act→World→Prop} {ops:Array Oper} {fuel i:Nat} {listed:Array Bool}
def Left (P:Program) (ops:Array Oper) (Q:Exit→Act→World→Prop) (fuel:Nat) (listed:Array Bool):Act→World→Prop:=wpAnyIn (FR none) 0 P .any ops (NP Q) fuel listed
theorem Mh {id:Nat} {l:List Oper} (n:Nat) [qh:SG P] (hn:l.length=n) (k:Tr c D sl hs (Left P l.toArray Q n (Array.replicate n false))):Tr c D sl hs (WP P none (.region id l.toArray true) Q):=fun a w bb=>by
 subst hn
 have h:(Code.region id l.toArray true).wpIn (FR none) 0 P (NP Q) a w:=wpIn_region_any qh.eq (by
  have:=k a w.drew (bb.heap bb.mem.drew)
  simpa [Left] using this)
 exact wpIn_mono h fun e a' w' h=>by
  cases e with
  | panic c=>exact h.elim
  | _=>exact h
theorem eO (i:Nat) {d:Nat} {op:Op} {ty:TypeId} {pos:String} {af:Array Edge} {V:Value} (hi:ops[i]? = some ⟨some d,op,ty,pos,af,none⟩) (hs1:Region.noSelect ops=true) (hf:Region.free .any ops listed i=true) (hr:(Region.ready .any ops listed).contains i=true)
  (S3:∀ (w:World) (ρ:Operand→Value),Oper.about P w ρ ⟨some d,op,ty,pos,af,none⟩=none) (hv:∀ w,cR P ⟨w,[],0⟩ sl [] ⟨some d,op,ty,pos,af,none⟩ V) (hd:Nat.blt d c.nt=true)
  (k:Tr c D ((d,V)::sl) hs (Left P ops Q fuel (listed.setIfInBounds i true))):Tr c D sl hs (Left P ops Q (fuel+1) listed):=fun a w bb=>by
 refine wpAnyIn_take (oi:=⟨some d,op,ty,pos,af,none⟩) rfl hi hs1 hf hr (fun c a w h=>h) (v:=V) ⟨.inl ⟨by simp [Region.wanted],fun w'=>?_⟩,fun w'=>S3 w' _⟩ (k _ _ (bb.put (by simpa [Z4] using hd) V))
 exact (hv w').2 a w' bb.cS ⟨.refl _ _,[],Zam,rfl,by simp⟩
def Next (P:Program) (c:Cx) (D:List Nat) (sl:aG) (hs:List a8) (ops:Array Oper) (Q:Exit→Act→World→Prop) (fuel:Nat) (listed:Array Bool) (i:Nat):Prop:=
 ∀ a w,St c D sl hs a w→wpOpIn (FR none) 0 P ops (NP Q) i (Left P ops Q fuel (listed.setIfInBounds i true)) a w
theorem cu {rs:List Nat} (hr:Region.ready .any ops listed=rs) (hne:rs≠[]) (h:∀ i∈rs,Next P c D sl hs ops Q fuel listed i):Tr c D sl hs (Left P ops Q (fuel+1) listed):=fun a w bb=>
 wpAnyIn_all hr hne fun i hi=>h i hi a w bb
theorem cG {d:Option Tmp} {op:Op} {ty:TypeId} {pos:String} {af:Array Edge} {g:Option (Nat×Bool)} (hi:ops[i]? = some ⟨d,op,ty,pos,af,g⟩) (h:Tr c D sl hs (WL P none ops (Exit.then (Left P ops Q fuel (listed.setIfInBounds i true)) (NP Q)) [⟨d,op,ty,pos,af,g⟩])):Next P c D sl hs ops Q fuel listed i:=fun a w bb=>by
 have h1:=h a w bb
 unfold wpOpIn
 simp only [hi]
 unfold WL at h1
 split
 ·rename_i hw
  rw [if_pos hw] at h1
  exact Oper.uh (fun a w h=>h) (fun c a w h=>h) (fun h=>h) h1
 ·rename_i hw
  rw [if_neg hw] at h1
  exact ⟨fun _ _=>trivial,h1⟩
theorem cH (hr:Region.ready .any ops listed=[]) (k:Tr c D sl hs (Q .normal)):Tr c D sl hs (Left P ops Q fuel listed):=fun a w bb=>
 wpAnyIn_done (Q:=NP Q) hr (k a w bb) fuel
theorem Hw {x:Code} (h:Tr c D sl hs (WP P none x (Exit.noGoto Q))):Tr c D sl hs (WP P none (.scope x) Q):=fun a w bb=>
 (wpIn_wide (n:=0)).2 (wp_scope_straight ((wpIn_wide (n:=0)).1 (h a w bb)))
theorem rJ (h:Tr c D sl hs (Q .ret)):Tr c D sl hs (Exit.noGoto Q .ret):=h
theorem HB {l:Nat} {r:Option Nat} (h:Tr c D sl hs (Q .normal)):Tr c D sl hs (WP P r (.label l) Q):=fun a w bb=>wpIn_label (h a w bb)
variable {dst:Option Tmp} {ty:TypeId} {pos:String} {af:Array Edge} {g:Option (Nat×Bool)}
theorem gz {t u e:TypeId} {x y:Operand} {a:Option Addr} {n cp n' Tb:Nat} [hu:iF P t (.slice e)] (hx:Is sl x (.slice a n cp)) (hy:Is sl y (.slice none n' Tb)):cR P c sl hs ⟨dst,.binOp .eql t x y u,ty,pos,af,g⟩ (.bool a.isNone):=
 iL hx hy fun w=>by
  have h1:(eqGuard .eql t x y (.slice a n cp) (.slice none n' Tb)).run P w=.ok () w:=by simp [eqGuard]
  rw [Sem.run_bind,h1,Result.andThen_ok]
  exact Go.Lib.run_eql_slice_nil w t e a n cp n' Tb hu.eq
end
end Go.SL
namespace Go.SL
open Go
class BP (b:Bool) (p q:outParam Prop):Prop where
 t:b=true→p
 f:b=false→q
instance (priority:=low) {b:Bool}:BP b (b=true) (b=false):=⟨id,id⟩
instance {p:Prop} {inst:Decidable p}:BP (@decide p inst) p (¬ p):=⟨of_decide_eq_true,of_decide_eq_false⟩
instance {a:Bool} {p q:Prop} [h:BP a p q]:BP (!a) q p:=⟨fun e=>h.f (by simpa using e),fun e=>h.t (by simpa using e)⟩
instance {a b:Bool} {p q p' q':Prop} [h:BP a p q] [h':BP b p' q']:BP (a||b) (p∨p') (q∧q'):=
 ⟨fun e=>(ZP _ _ ▸ e).elim (fun e=>.inl (h.t e)) (fun e=>.inr (h'.t e)),fun e=>by
  rw [Bool.or_eq_false_iff] at e
  exact ⟨h.f e.1,h'.f e.2⟩⟩
instance {a b:Bool} {p q p' q':Prop} [h:BP a p q] [h':BP b p' q']:BP (a&&b) (p∧p') (q∨q'):=
 ⟨fun e=>by
  rw [Zm] at e
  exact ⟨h.t e.1,h'.t e.2⟩,fun e=>(Bool.and_eq_false_iff.1 e).elim (fun e=>.inl (h.f e)) (fun e=>.inr (h'.f e))⟩
instance {a:Bool} {p q:Prop} [h:BP a p q]:BP (a==true) p q:=⟨fun e=>h.t (by simpa using e),fun e=>h.f (by simpa using e)⟩
instance {a:Bool} {p q:Prop} [h:BP a p q]:BP (a==false) q p:=⟨fun e=>h.f (by simpa using e),fun e=>h.t (by simpa using e)⟩
theorem gm:∀ u∈([]:List Value),u.oneCell'=true:=fun _ h=>absurd h Zq
theorem bJ {v:Value} {vs:List Value} (h:v.oneCell'=true) (t:∀ u∈vs,u.oneCell'=true):∀ u∈v::vs,u.oneCell'=true:=ZA.2 ⟨h,t⟩
theorem QV {n:Int} (h:-9223372036854775808≤n∧n≤9223372036854775807):V3 n:=h
theorem bF {a b:Nat} (h:Nat.ble a b=true):a≤b:=Zav h
theorem ak {α:Type} {a b:α} (h:a=b:=by (first | (simp only [Int.toNat_zero,Int.toNat_one,Int.reduceToNat,sZ,setCells,ed,partOf,Value.cells,tu,cond_true,cond_false,Zax,ZaV,List.set_cons_zero,List.set_cons_succ,Zbk,ZJ,Zaa,Nat.reduceAdd,Nat.reduceMul,Nat.reduceLeDiff,and_self,and_true,true_and,if_true,List.set,List.length_set,Zz,ZB,Zaw];exact rfl) | exact rfl)):a=b:=h
theorem ae {α:Type} {a b:α} (h:a=b:=by (first | (simp only [Nat.reduceAdd,ZB,Zaw];exact rfl) | exact rfl)):a=b:=h
theorem bj {α:Type} {a b:α} (h:a=b:=by (first | (simp only [ZG,ZB,Int.reduceToNat,Int.toNat_zero,Int.toNat_one];exact rfl) | exact rfl)):a=b:=h
theorem dX {α:Type} {a b:α} (h:a=b:=by first | ((try simp only [Za,ZU,Zb]);exact rfl) | exact rfl):a=b:=h
theorem bO {α:Type} {a b:α} (h:a=b:=by first | (simp only [List.range,List.range.loop,List.map,Nat.reduceMul];exact rfl) | exact rfl):a=b:=h
theorem eN {a b:Nat} (h:a≤b:=by first | omega | (simp only [Zg,ZJ,Zaa];omega)):a≤b:=h
theorem mf {α:Type} {a b:α} (h:a=b:=by kernel_rfl):a=b:=h
section
variable {P:Program} {r:Option Nat} {c:Cx} {D:List Nat} {sl:aG} {rl:eJ} {hs hs':List a8} {Q:Exit→Act→World→Prop} {ops:Array Oper} {m d:Nat} {dst:Option Tmp} {op:Op} {ty:TypeId} {pos:String} {af:Array Edge} {rest:List Oper}
theorem AX {t:TypeId} (hd:Nat.blt d c.nt=true) (k:∀ b,c.w0.heap.size≤b→Tr c D ((d,.map (some b))::sl) (mp (fun s:ByteArray=>Value.string s) b []::hs) (WL P r ops Q rest)) :
  Tr c D sl hs (WL P r ops Q (⟨some d,.makeMap t none,ty,pos,af,none⟩::rest)):=CY (fun s:ByteArray=>Value.string s) hd k
theorem dC {j g:Nat} {want q:Bool} (hj:((ops[j]?).bind (·.dst))=some g) (hq:cK sl g=some (.bool q)) (hn:(q==want)=false) (hd:Nat.blt d c.nt=true) (k:Tr c D ((d,gv (q==want) (.bool false))::sl) hs (WL P r ops Q rest)) :
  Tr c D sl hs (WL P r ops Q (⟨some d,op,ty,pos,af,some (j,want)⟩::rest)):=ur hj hq (fun e=>absurd (hn.symm.trans e) (by decide)) hd k
theorem HE {x:Operand} {b:Bool} {p q:Prop} {u v:Code} (hx:Is sl x (.bool b)) (hb:BP b p q)
  (ht:p→Tr c D sl hs (WP P r u Q)) (hf:q→Tr c D sl hs (WP P r v Q)):Tr c D sl hs (WP P r (.cond x u v) Q):=
 Ew hx (fun e=>ht (hb.t e)) (fun e=>hf (hb.f e))
theorem kp {V:Value} {p p':Prop} {j g:Nat} {want c0 q:Bool} (hj:((ops[j]?).bind (·.dst))=some g) (hq:cK sl g=some (gv c0 (.bool q))) (hb:BP (c0&&(q==want)) p p')
  (hr:(c0&&(q==want))=true→p→cR P c sl hs ⟨some d,op,ty,pos,af,some (j,want)⟩ V) (hd:Nat.blt d c.nt=true) (k:Tr c D ((d,gv (c0&&(q==want)) V)::sl) hs (WL P r ops Q rest)) :
  Tr c D sl hs (WL P r ops Q (⟨some d,op,ty,pos,af,some (j,want)⟩::rest)):=Et hj hq (fun e=>hr e (hb.t e)) hd k
theorem aA {V:Value} {p p':Prop} {j g:Nat} {want q:Bool} (hj:((ops[j]?).bind (·.dst))=some g) (hq:cK sl g=some (.bool q)) (hb:BP (q==want) p p')
  (hr:(q==want)=true→p→cR P c sl hs ⟨some d,op,ty,pos,af,some (j,want)⟩ V) (hd:Nat.blt d c.nt=true) (k:Tr c D ((d,gv (q==want) V)::sl) hs (WL P r ops Q rest)) :
  Tr c D sl hs (WL P r ops Q (⟨some d,op,ty,pos,af,some (j,want)⟩::rest)):=ur hj hq (fun e=>hr e (hb.t e)) hd k
theorem qA {V:Value} {p p':Prop} {j gs:Nat} {want c0 q:Bool} (hj:((ops[j]?).bind (·.dst))=some gs) (hq:cK sl gs=some (gv c0 (.bool q))) (hb:BP (c0&&(q==want)) p p')
  (hr:(c0&&(q==want))=true→p→cR P c sl hs ⟨some d,op,ty,pos,af,some (j,want)⟩ V) (hd:Nat.blt d c.nt=true) (k:kR P r c D hs ops Q m rest ((d,gv (c0&&(q==want)) V)::sl) rl) :
  kR P r c D hs ops Q (m+1) (⟨some d,op,ty,pos,af,some (j,want)⟩::rest) sl rl:=Cu hj hq (fun e=>hr e (hb.t e)) hd k
theorem dF {V:Value} {p p':Prop} {j gs:Nat} {want q:Bool} (hj:((ops[j]?).bind (·.dst))=some gs) (hq:cK sl gs=some (.bool q)) (hb:BP (q==want) p p')
  (hr:(q==want)=true→p→cR P c sl hs ⟨some d,op,ty,pos,af,some (j,want)⟩ V) (hd:Nat.blt d c.nt=true) (k:kR P r c D hs ops Q m rest ((d,gv (q==want) V)::sl) rl) :
  kR P r c D hs ops Q (m+1) (⟨some d,op,ty,pos,af,some (j,want)⟩::rest) sl rl:=G3 hj hq (fun e=>hr e (hb.t e)) hd k
end
theorem Fs {P:Program} {c:Cx} {sl:aG} {hs:List a8} {fn:Func} {t:Tmp} {T:TypeId} {b o n:Nat} {v:Value} (h:fn.results=#[.cell t T]) (hT:Ty P T false n) (hp:cK sl t=some (.pointer (some ⟨b,o,none⟩))) (hv:At c hs b o v):Ends P fn c sl hs v:=Se h hp hv
section
variable {P:Program} {r:Option Nat} {c:Cx} {D:List Nat} {sl:aG} {rl:eJ} {hs hs':List a8} {Q:Exit→Act→World→Prop} {ops:Array Oper} {m d:Nat} {op:Op} {ty:TypeId} {pos:String} {af:Array Edge} {rest:List Oper}
theorem s_r {id:Nat} {l:List Oper} {y:Code} (h:Tr c D sl hs (WL P r l.toArray (Exit.then (WP P r y Q) Q) l)):Tr c D sl hs (WP P r (.seq (.region id l.toArray false) y) Q):=mP (ml h)
theorem n_t {N:Act→World→Prop} (h:Tr c D sl hs N):Tr c D sl hs (WL P r ops (Exit.then N Q) []):=h
theorem n_r {id:Nat} {l:List Oper} {y:Code} {Q':Exit→Act→World→Prop} (h:Tr c D sl hs (WL P r l.toArray (Exit.then (WP P r y Q) Q) l)):Tr c D sl hs (WL P r ops (Exit.then (WP P r (.seq (.region id l.toArray false) y) Q) Q') []):=mP (ml h)
theorem s_t {N:Act→World→Prop} (h:Tr c D sl hs N):Tr c D sl hs (WP P r .skip (Exit.then N Q)):=yK h
theorem x_t {N:Act→World→Prop} {id:Nat} (h:Tr c D sl hs (Q (.exit id))):Tr c D sl hs (WP P r (.exit id) (Exit.then N Q)):=Mi h
theorem r_t {N:Act→World→Prop} (h:Tr c D sl hs (Q .ret)):Tr c D sl hs (WP P r .ret (Exit.then N Q)):=Hx h
theorem Nh {x:Operand} {v:Value} (hx:ev sl x=some v) (hd:Nat.blt d c.nt=true) (k:Tr c D ((d,v)::sl) hs (WL P r ops Q rest)):Tr c D sl hs (WL P r ops Q (⟨some d,.move x,ty,pos,af,none⟩::rest)):=ab (a7 (.of hx)) hd k
theorem a_s {x:Operand} {v:Value} (hx:ev sl x=some v) (hd:Nat.blt d c.nt=true) (k:Tr c D ((d,v)::sl) hs (WL P r ops Q rest)):Tr c D sl hs (WL P r ops Q (⟨some d,.assign x,ty,pos,af,none⟩::rest)):=ab (cA (.of hx)) hd k
theorem ly {x:Operand} {v:Value} (hx:ev sl x=some v) (hd:Nat.blt d c.nt=true) (k:kR P r c D hs ops Q m rest ((d,v)::sl) rl):kR P r c D hs ops Q (m+1) (⟨some d,.move x,ty,pos,af,none⟩::rest) sl rl:=aL (a7 (.of hx)) hd k
theorem bP {t:TypeId} {i o:Nat} {x:Operand} {b k q:Nat} [eh P t i o] (hx:ev sl x=some (.pointer (some ⟨b,k,none⟩))) (hd:Nat.blt d c.nt=true) (he:k+o=q) (h:Tr c D ((d,.pointer (some ⟨b,q,none⟩))::sl) hs (WL P r ops Q rest)) :
  Tr c D sl hs (WL P r ops Q (⟨some d,.fieldAddr t x i,ty,pos,af,none⟩::rest)):=ab (ao (.of hx) he) hd h
theorem oO {t:TypeId} {i o:Nat} {x:Operand} {b k q:Nat} [eh P t i o] (hx:ev sl x=some (.pointer (some ⟨b,k,none⟩))) (hd:Nat.blt d c.nt=true) (he:k+o=q) (h:kR P r c D hs ops Q m rest ((d,.pointer (some ⟨b,q,none⟩))::sl) rl) :
  kR P r c D hs ops Q (m+1) (⟨some d,.fieldAddr t x i,ty,pos,af,none⟩::rest) sl rl:=aL (ao (.of hx) he) hd h
theorem gr {x:Operand} {v:Value} {j g:Nat} {want q:Bool} (hj:((ops[j]?).bind (·.dst))=some g) (hq:cK sl g=some (.bool q)) (hx:ev sl x=some v) (hd:Nat.blt d c.nt=true) (k:Tr c D ((d,gv (q==want) v)::sl) hs (WL P r ops Q rest)) :
  Tr c D sl hs (WL P r ops Q (⟨some d,.move x,ty,pos,af,some (j,want)⟩::rest)):=ur hj hq (fun _=>a7 (.of hx)) hd k
theorem fP {x:Operand} {p:Prop} {inst:Decidable p} {u v:Code} (hx:ev sl x=some (.bool (decide p))) (ht:p→Tr c D sl hs (WP P r u Q)) (hf:¬ p→Tr c D sl hs (WP P r v Q)):Tr c D sl hs (WP P r (.cond x u v) Q):=FV (.of hx) ht hf
theorem nF {x:Operand} {b:Bool} {p q:Prop} {u v:Code} (hx:ev sl x=some (.bool b)) [hb:BP b p q] (ht:p→Tr c D sl hs (WP P r u Q)) (hf:q→Tr c D sl hs (WP P r v Q)):Tr c D sl hs (WP P r (.cond x u v) Q):=HE (.of hx) hb ht hf
end
end Go.SL
