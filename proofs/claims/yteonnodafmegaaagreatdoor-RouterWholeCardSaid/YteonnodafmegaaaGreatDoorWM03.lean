/- Parts of the proof: GkRow GkLoop GkRange GkSlice K1Ty GkSeq GkMake GkTab GkAnyL GkFin. -/
import Derived.Test.YteonnodafmegaaaGreatDoorWM02
import Derived.Laws.AppendOwn
import Derived.Laws.RangeAny
import Derived.Laws.Slices
import Derived.Test.YteonnodafmegaaaGreatDoorProg
import Derived.Laws.MakeOwn
import Derived.Scope
import Derived.Lib.SliceRun
set_option linter.unusedSectionVars false
set_option linter.unusedVariables false
set_option linter.unusedSimpArgs false
namespace Go.SL
open Go
def Rd (w:World) (v:Value) (sz:Nat) (xs:List (List Value)):Prop:=
 ∃ a cap b o,v=.slice a xs.length cap∧xs.length≤cap∧cap≤maxLen∧(xs≠[]→a=some ⟨b,o,none⟩)∧∀ i r,xs[i]? = some r→r.length=sz∧∀ j u,r[j]? = some u→w.cell? ⟨b,o+i*sz+j,none⟩=some u
theorem Rd.keeps {w w':World} {v:Value} {sz:Nat} {xs:List (List Value)} (h:Rd w v sz xs) (hk:aJ [] w w'):Rd w' v sz xs:=by
 obtain ⟨a,cap,b,o,h1,h2,GJ,h3,h4⟩:=h
 refine ⟨a,cap,b,o,h1,h2,GJ,h3,fun i r hr=>⟨(h4 i r hr).1,fun j u hu=>?_⟩⟩
 have:=(h4 i r hr).2 j u hu
 have hb:=World.block_lt_of_cell? w _ this
 rw [← this]
 simp only [World.cell?]
 rw [hk.block b hb (by simp)]
theorem Rd.nil (w:World) (sz:Nat):Rd w (.slice none 0 0) sz []:=⟨none,0,0,0,rfl,Zz _,by unfold maxLen;omega,fun h=>absurd rfl h,fun i r h=>by simp at h⟩
theorem YP {w:World} {b o i:Nat} {xs:List (List Value)} {u:Value} (h:∀ i r,xs[i]? = some r→r.length=1∧∀ j u,r[j]? = some u→w.cell? ⟨b,o+i*1+j,none⟩=some u) (hr:xs[i]? = some [u]):w.cell? ⟨b,o+i*1,none⟩=some u:=(h i _ hr).2 0 u rfl
theorem Mem.dw {c:Cx} {hs hs':List bd} {w:World} (hm:Mem c hs w) {b:Nat} {cs:List Value} {E:TypeId} {fz:Nat×Nat} (ht:Take hs (SL.bH b (.cells cs.toArray E fz)) hs') {n:Nat} (hn:cs.length=n) (hle:Nat.ble n 1000=true):Rd w (.slice (some ⟨b,0,none⟩) n n) 1 (cs.map fun v=>[v]):=by
 subst hn
 have Nw:cs.length≤1000:=by simpa using hle
 refine ⟨_,cs.length,b,0,by simp,by simp,by unfold maxLen;omega,fun _=>rfl,fun i r hr=>?_⟩
 rw [ZF,Zak] at hr
 obtain ⟨v,hv,rfl⟩:=hr
 refine ⟨rfl,fun j u hu=>?_⟩
 cases j with
 | zero =>
  simp only [Zay,Option.some.injEq] at hu
  subst hu
  rw [cell_of_block (hm.bH ht)]
  simpa using hv
 | succ j=>simp at hu
def row (E:TypeId) (sz:Nat) (v:Value) (n:Nat) (xs:List Value):bd where
 sat h fp:=fp=v.ownBlock.toList∧xs.length=n*sz∧((v=.slice none 0 0∧n=0) ∨
  ∃ g cap cur,v=.slice (some ⟨g,0,none⟩) n cap∧h g=some (.cells cur E (0,0))∧n≤cap∧cap≤maxLen∧cur.size=cap*sz∧cur.toList.take (n*sz)=xs)
 loc:=by
  rintro h h' fp ⟨e,hl,h1⟩ hb
  refine ⟨e,hl,h1.imp id ?_⟩
  rintro ⟨g,cap,cur,rfl,hg,r⟩
  exact ⟨g,cap,cur,rfl,by rw [hb g (by rw [e];simp [Value.ownBlock])];exact hg,r⟩
 own:=by
  rintro h fp ⟨e,hl,h1⟩ b hb
  rcases h1 with ⟨rfl,_⟩ | ⟨g,cap,cur,rfl,hg,_⟩
  ·rw [e] at hb;simp [Value.ownBlock] at hb
  ·rw [e] at hb;simp [Value.ownBlock] at hb;subst hb;exact ⟨_,hg⟩
theorem Bo {w:World} {E:TypeId} {sz:Nat} {v:Value} {n:Nat} {xs:List Value} {fp:List Nat} (h:(row E sz v n xs).sat (hp w) fp):w.ownsRow 0 E sz v n xs:=by
 obtain ⟨_,hl,h1⟩:=h
 exact ⟨hl,h1.imp id fun ⟨g,cap,cur,e,hg,r⟩=>⟨g,cap,cur,e,Zi _,hg,r⟩⟩
theorem lQ {w:World} {E:TypeId} {sz:Nat} {v:Value} {n:Nat} {xs:List Value} (h:w.ownsRow 0 E sz v n xs):(row E sz v n xs).sat (hp w) v.ownBlock.toList:=by
 obtain ⟨hl,h1⟩:=h
 exact ⟨rfl,hl,h1.imp id fun ⟨g,cap,cur,e,_,hg,r⟩=>⟨g,cap,cur,e,hg,r⟩⟩
theorem Mem.P6 {c:Cx} {hs:List bd} {w:World} (hm:Mem c hs w) (E:TypeId) (sz:Nat):Mem c (row E sz (.slice none 0 0) 0 []::hs) w:=
 Mem.change (As:=[]) (Bs:=[row E sz (.slice none 0 0) 0 []]) hm fun fp _ hf=>by
  rw [show fp=[] from hf]
  exact ⟨.refl _ _,[],Zaj,⟨[],[],rfl,⟨rfl,by simp,.inl ⟨rfl,rfl⟩⟩,rfl⟩,by simp⟩
theorem aQ {c:Cx} {D:List Nat} {sl:aH} {hs:List bd} {X:Act→World→Prop} (E:TypeId) (sz:Nat) (k:Tr c D sl (row E sz (.slice none 0 0) 0 []::hs) X):Tr c D sl hs X:=fun a w bh=>
 k a w (bh.heap (bh.mem.P6 E sz))
theorem oK {sz j:Nat} {r:List Value} {u:Value}:∀ (xs:List (List Value)) (i:Nat),(∀ r∈xs,r.length=sz)→xs[i]? = some r→r[j]? = some u→xs.flatten[i*sz+j]? = some u
 | [],i,_,hr,_=>by simp at hr
 | x :: xs, 0, hx, hr, hu => by
  simp at hr;subst hr
  rw [ZaC,ZD (by rw [Zbu,ZC];exact (Zl.1 hu).1),Zbu,ZC]
  exact hu
 | x :: xs, i + 1, hx, hr, hu => by
  have ON:=hx x (by simp)
  rw [ZaC,ZK (by rw [ON,Zaf];omega),ON,Zaf,show i*sz+sz+j-sz=i*sz+j from by omega]
  exact oK xs i (fun r TY=>hx r (by simp [TY])) (by simpa using hr) hu
theorem P5 {w:World} {E:TypeId} {sz:Nat} {v:Value} {n:Nat} {xs:List (List Value)} {fp:List Nat} (hx:∀ r∈xs,r.length=sz) (hn:xs.length=n) (h:(row E sz v n xs.flatten).sat (hp w) fp):Rd w v sz xs:=by
 subst hn
 obtain ⟨_,hl,h1⟩:=h
 rcases h1 with ⟨rfl,hn⟩ | ⟨g,cap,cur,rfl,hg,dj,hm,hsz,dY⟩
 ·have:xs=[]:=Zan.1 hn
  subst this
  exact Rd.nil w sz
 ·refine ⟨_,cap,g,0,rfl,dj,hm,fun _=>rfl,fun i r hr=>⟨hx r (ZV hr),fun j u hu=>?_⟩⟩
  have Uo:w.heap[g]? = some (.cells cur E (0,0)):=hg
  rw [cell_of_block Uo]
  have W5:=hx r (ZV hr)
  have hi:i<xs.length:=(Zl.1 hr).1
  have hj:j<sz:=by rw [← W5];exact (Zl.1 hu).1
  have OY:xs.flatten[i*sz+j]? = some u:=oK xs i hx hr hu
  have aM:i*sz+j<xs.length*sz:=by
   have:(i+1)*sz≤xs.length*sz:=Z7 _ hi
   rw [Zaf] at this
   omega
  rw [← dY,ZG,if_pos aM] at OY
  simpa using OY
theorem Mem.om {c:Cx} {hs hs':List bd} {w:World} (hm:Mem c hs w) {E:TypeId} {sz:Nat} {v:Value} {n:Nat} {ys:List Value} {xs:List (List Value)} (ht:Take hs (row E sz v n ys) hs') (he:ys=xs.flatten) (hx:∀ r∈xs,r.length=sz) (hn:xs.length=n):Rd w v sz xs:=by
 subst he
 obtain ⟨_,fp,_,⟨f1,f2,_,h1,_⟩,_⟩:=hm.take ht
 exact P5 hx hn h1
theorem lp {α:Type} (l:List α):(l.map fun v=>[v]).flatten=l:=by
 induction l with
 | nil=>rfl
 | cons x l ih=>simp [ih]
theorem Mem.P9 {c:Cx} {hs hs':List bd} {w:World} (hm:Mem c hs w) {E:TypeId} {v:Value} {n:Nat} {ys:List Value} (ht:Take hs (row E 1 v n ys) hs') (hn:ys.length=n):Rd w v 1 (ys.map fun u=>[u]):=
 hm.om ht (lp ys).symm (fun r hr=>by obtain ⟨u,_,rfl⟩:=Zt.1 hr;rfl) (by simpa using hn)
theorem cU {c:Cx} {D:List Nat} {sl:aH} {hs hs':List bd} {X:Act→World→Prop} {E:TypeId} {sz:Nat} {v:Value} {n:Nat} {xs:List Value} (ht:Take hs (row E sz v n xs) hs') (hn:0<n)
  (k:∀ g cap cur,v=.slice (some ⟨g,0,none⟩) n cap→n≤cap→cap≤maxLen→(xs++cur).length=cap*sz→xs.length=n*sz→Tr c D sl (bH g (.cells (xs++cur).toArray E (0,0))::hs') X):Tr c D sl hs X:=fun a w bh=>by
 have hm:=bh.mem.take (ht.append _)
 obtain ⟨kk,fp,lj,⟨f1,f2,rfl,⟨e,hl,h1⟩,h2⟩,hb⟩:=hm
 rcases h1 with ⟨_,h0⟩ | ⟨g,cap,cur,rfl,hg,dj,z6,hsz,dY⟩
 ·omega
 ·have np:cur=(xs++cur.toList.drop (n*sz)).toArray:=by
   rw [← dY,ZZ]
  have hlen:(xs++cur.toList.drop (n*sz)).length=cap*sz:=by rw [← dY,ZZ];simpa using hsz
  refine k g cap (cur.toList.drop (n*sz)) rfl dj z6 hlen hl a w (bh.heap ⟨kk,f1++f2,lj,⟨f1,f2,rfl,⟨?_,?_⟩,h2⟩,hb⟩)
  ·rw [e];rfl
  ·rw [← np];exact hg
theorem Mem.Mx {c:Cx} {hs:List bd} {w:World} {E:TypeId} {sz g n cap:Nat} {xs cur:List Value} (hm:Mem c (SL.bH g (.cells (xs++cur).toArray E (0,0))::hs) w) (dj:n≤cap) (z6:cap≤maxLen) (hsz:(xs++cur).length=cap*sz) (hl:xs.length=n*sz):Mem c (row E sz (.slice (some ⟨g,0,none⟩) n cap) n xs::hs) w:=by
 obtain ⟨kk,fp,lj,⟨f1,f2,rfl,⟨e,hg⟩,h2⟩,hb⟩:=hm
 refine ⟨kk,f1++f2,lj,⟨f1,f2,rfl,⟨by rw [e];rfl,hl,.inr ⟨g,cap,_,rfl,hg,dj,z6,by simpa using hsz,?_⟩⟩,h2⟩,hb⟩
 simp [← hl]
theorem cN {c:Cx} {D:List Nat} {sl:aH} {hs hs':List bd} {X:Act→World→Prop} {E:TypeId} {sz g n cap:Nat} {xs cur:List Value} (ht:Take hs (bH g (.cells (xs++cur).toArray E (0,0))) hs') (dj:n≤cap) (z6:cap≤maxLen) (hsz:(xs++cur).length=cap*sz) (hl:xs.length=n*sz)
  (k:Tr c D sl (row E sz (.slice (some ⟨g,0,none⟩) n cap) n xs::hs') X):Tr c D sl hs X:=fun a w bh=>
 k a w (bh.heap (Mem.Mx (bh.mem.take (ht.append _)) dj z6 hsz hl))
section
variable {P:Program} {r:Option Nat} {c:Cx} {D:List Nat} {sl:aH} {hs hs':List bd} {ops:Array Oper} {Q:Exit→Act→World→Prop} {d:Nat} {ty:TypeId} {pos:String} {af:Array Edge} {rest:List Oper}
theorem qD {w w':World} {t ty e:TypeId} {i:TypeInfo} {z:Value} (ht:P.underlying t=some (.slice e)) (hi:P.info? e=some i) (hz:i.zero=some z)
  {v v':Value} {n:Nat} {xs:List Value} (rC:w.ownsRow 0 e i.size v n xs) {a:Addr} {m cp:Nat} {news:List Value} (hl:news.length=m*i.size) (rD:∀ j u,news[j]? = some u→w.cell? (a.add j)=some u) (h1:∀ u∈news,u.oneCell'=true)
  (h63:n+m≤maxLen) (gK:(n+m)*i.bytes≤140737488355328) (gF:(Builtin.append_ #[t,t] ty #[v,.slice (some a) m cp]).run P w=.ok v' w'):(v'.ownBlock=v.ownBlock∨v'.ownBlock=some w.heap.size)∧w.drawn≤w'.drawn:=by
 have WX:n+m≤9223372036854775807:=by simp only [maxLen] at h63;omega
 rcases rC.2 with ⟨rfl,rfl⟩ | ⟨g,cap,cur,rfl,Rw,hg,hnc,hcm,O2,dY⟩
 ·by_cases hm:m=0
  ·subst hm
   have hn:news=[]:=Z0 (by simpa using hl)
   subst hn
   have:(Builtin.append_ #[t,t] ty #[.slice none 0 0,.slice (some a) 0 cp]).run P w=.ok (.slice none 0 0) w:=by
    simp [Builtin.append_,aV ht,sizeOf,typeInfo,hi,Builtin.lenOf,Builtin.firstCells,loadCells,loadCellsFrom]
   rw [gF] at this
   cases this
   exact ⟨.inl rfl,Zz _⟩
  ·have hr:=run_append_nil (P:=P) w t ty e i z ht hi hz a m cp news hl rD (by omega) (by omega) (by have hb:=gK;simp only [ZC] at hb;omega)
   rw [gF] at hr
   cases hr
   exact ⟨.inr rfl,Nat.le_succ _⟩
 ·by_cases yy:n+m≤cap
  ·have hfit:n*i.size+news.length≤cur.size:=by rw [hl,O2,← Nat.add_mul];exact Z7 _ yy
   have hr:=run_append_room (P:=P) w t ty e i ht hi g n cap cur hg a m cp news hl rD h1 yy hfit
   rw [gF] at hr
   cases hr
   exact ⟨.inl rfl,Zz _⟩
  ·have holds:∀ j u,xs[j]? = some u→w.cell? ((⟨g,0,none⟩:Addr).add j)=some u:=rC.cells (g:=g) rfl
   have hr:=run_append_grow (P:=P) w t ty e i z ht hi hz ⟨g,0,none⟩ n cap xs rC.1 holds a m cp news hl rD (by omega) (by omega) (growslice_fits (by omega) gK)
   rw [gF] at hr
   cases hr
   exact ⟨.inr rfl,Nat.le_succ _⟩
theorem xM {t e:TypeId} {agg:Bool} {size bytes:Nat} {z:Value} {x y:Operand} {v:Value} {n b o m cp:Nat} {xs news:List Value} [hu:iV P t (.slice e)] [hT:Ty P e agg size] [hZ:lZ P e z] [hB:wE P e bytes]
  (hx:Is sl x v) (hy:Is sl y (.slice (some ⟨b,o,none⟩) m cp)) (ht:Take hs (row e size v n xs) hs') (hn:ew c hs b o news) (hl:news.length=m*size) (h1:∀ u∈news,u.oneCell'=true) (hz:z.cells.size=size) (hsz:Nat.blt 0 size=true) (hb0:Nat.blt 0 bytes=true)
  (hb:(n+m)*bytes≤140737488355328) (hd:Nat.blt d c.nt=true)
  (k:∀ v',Tr c D ((d,v')::sl) (row e size v' (n+m) (xs++news)::hs') (WL P r ops Q rest)) :
  Tr c D sl hs (WL P r ops Q (⟨some d,.call ⟨.builtin .append,#[x,y],#[t,t]⟩,ty,pos,af,none⟩::rest)):=fun a w bh=>by
 obtain ⟨de,i,mq,hi,_,iH⟩:=Ty.parts (P:=P) (t:=e) (agg:=agg) (n:=size)
 have hzero:i.zero=some z:=by have:=hZ.eq;rw [hi] at this;simpa using this
 have gK:i.bytes=bytes:=by have:=hB.eq;rw [hi] at this;simpa using this
 have VJ:=bh.rn
 have hm:=bh.mem.take (ht.append _)
 obtain ⟨kk,fp,lj,⟨f1,f2,rfl,hrow,h2⟩,DU⟩:=hm
 have rC:=Bo hrow
 have B9:0<bytes:=by simpa using hb0
 have bV:n+m≤maxLen:=by
  have:(n+m)*1≤(n+m)*bytes:=Zbq _ B9
  unfold maxLen;omega
 obtain ⟨v',w',gF,rB,vD,_⟩:=run_append_own (P:=P) w 0 t ty e i z size bytes hu.eq hi hzero iH gK hz (by simpa using hsz) v n xs rC ⟨b,o,none⟩ m cp news hl
  (fun j u hj=>by rw [eK];exact hn.get j u hj w VJ) h1 bV hb (Zi _)
 have wX:=qD (P:=P) (t:=t) (ty:=ty) hu.eq hi hzero (by rw [iH];exact rC) (a:=⟨b,o,none⟩) (m:=m) (cp:=cp) (by rw [iH];exact hl) (fun j u hj=>by rw [eK];exact hn.get j u hj w VJ) h1 bV (by rw [gK];exact hb) gF
 refine mr rfl ⟨dN _ _ _ _ _,?_⟩
 rw [Oper.semAt_eq _ _ _ (by simp)]
 have:(execOp a.eval ⟨some d,.call ⟨.builtin .append,#[x,y],#[t,t]⟩,ty,pos,af,none⟩).run P w=.ok (.value v') w':=by
  simp [execOp,resolve,invoke,builtin,hx a bh.c5,hy a bh.c5,gF]
 rw [this]
 refine k v' _ _ ((bh.put (by simpa [Z2] using hd) v').heap ?_)
 have hm:Mem c ([row e size v n xs]++(hs'++mE D)) w:=⟨kk,f1++f2,lj,⟨f1,f2,rfl,hrow,h2⟩,DU⟩
 have:=Mem.change (Bs:=[row e size v' (n+m) (xs++news)]) (w':=w') hm fun fp uo hf=>by
  obtain ⟨g1,g2,e1,hr,e2⟩:=hf
  have GB:fp=v.ownBlock.toList:=by rw [e1,show g2=[] from e2,hr.1];simp
  refine ⟨⟨vD.os,vD.tape,vD.output,wX.2,vD.size,fun q hq Xo=>vD.block q hq (fun he=>Xo ?_)⟩,v'.ownBlock.toList,?_,⟨_,[],by simp,lQ rB,rfl⟩,fun q hq=>?_⟩
  ·rw [GB,← he];simp
  ·cases v'.ownBlock <;> simp
  ·have wx:v'.ownBlock=some q:=by simpa [Option.mem_toList] using hq
   rcases wX.1 with h | h
   ·left;rw [GB,← h,wx];simp
   ·right
    rw [h] at wx
    cases wx
    exact Zz _
 simpa using this
end
end Go.SL
namespace Go.SL
open Go
def CI {ι:Type} (c:Cx) (D:List Nat) (Φ:ι→Prop) (sI:ι→aH) (hI:ι→List bd) (μ:ι→Nat) (i:ι):Act→World→Prop:=fun a w=>∃ j,Φ j∧μ j<μ i∧St c D (sI j) (hI j) a w
def yQ {ι:Type} (c:Cx) (D:List Nat) (Φ:ι→Prop) (sI:ι→aH) (hI:ι→List bd):Act→World→Prop:=fun a w=>∃ i,Φ i∧St c D (sI i) (hI i) a w
section
variable {P:Program} {r:Option Nat} {c:Cx} {D:List Nat} {sl:aH} {hs hs':List bd} {Q:Exit→Act→World→Prop} {ι:Type} {Φ:ι→Prop} {sI:ι→aH} {hI:ι→List bd} {μ:ι→Nat}
theorem aW {x:Code} (Φ:ι→Prop) (sI:ι→aH) (hI:ι→List bd) (μ:ι→Nat) (h0:Tr c D sl hs (yQ c D Φ sI hI))
  (round:∀ i,Φ i→Tr c D (sI i) (hI i) (WP P r x (Exit.then (CI c D Φ sI hI μ i) Q))):Tr c D sl hs (WP P r (.loop x) Q):=
 L4 Φ sI hI μ h0 round
def lB (sl:aH):aH→Prop
 | []=>True
 | (t,v)::r=>cS sl t=some v∧lB sl r
theorem lB.get:∀ {js:aH},lB sl js→∀ t v,cS js t=some v→cS sl t=some v
 | [],_,t,v,h=>by cases h
 | (u, x) :: r, ⟨h1, h2⟩, t, v, h => by
  by_cases e:u=t
  ·subst e;rw [fD] at h;cases h;exact h1
  ·rw [fC e] at h;exact lB.get h2 t v h
theorem lB.nil:lB sl []:=trivial
theorem lB.cons {t:Nat} {v:Value} {r:aH} (h:cS sl t=some v) (k:lB sl r):lB sl ((t,v)::r):=⟨h,k⟩
theorem lB.KG {t:Nat} {v u:Value} {r:aH} (h:cS sl t=some u) (e:u=v) (k:lB sl r):lB sl ((t,v)::r):=⟨e ▸ h,k⟩
theorem St.weaken {js:aH} {hs1 rest:List bd} {a:Act} {w:World} (h:St c D sl hs a w) (hs':lB sl js) (ht:bD hs hs1 rest):St c D js hs1 a w:=by
 refine ⟨?_,h.c5.sub hs'.get,h.size,h.defers⟩
 have h1:=h.mem.jo (ht.append (mE D))
 -- hs1++(rest++mE):forget AJ rest
 obtain ⟨k,fp,hn,iz,hb⟩:=h1
 obtain ⟨f1,f2,rfl,s1,s2⟩:=ct.append_iff.1 iz
 obtain ⟨g1,g2,rfl,s3,s4⟩:=ct.append_iff.1 s2
 refine ⟨k,f1++g2,?_,ct.append_iff.2 ⟨f1,g2,rfl,s1,s4⟩,fun b dz=>hb b ?_⟩
 ·obtain ⟨n1,n2,n3⟩:=ZH.1 hn
  obtain ⟨_,n5,_⟩:=ZH.1 n2
  exact ZH.2 ⟨n1,n5,fun x hx y hy=>n3 x hx y (ZT _ hy)⟩
 ·rcases Zx.1 dz with h | h
  ·exact ZE _ h
  ·exact ZT _ (ZT _ h)
theorem aK {i:ι} (j:ι) {rest:List bd} (hΦ:Φ j) (hμ:μ j<μ i) (hs1:lB sl (sI j)) (ht:bD hs (hI j) rest):Tr c D sl hs (CI c D Φ sI hI μ i):=
 fun a w bh=>⟨j,hΦ,hμ,bh.weaken hs1 ht⟩
theorem aI (j:ι) {rest:List bd} (hΦ:Φ j) (hs1:lB sl (sI j)) (ht:bD hs (hI j) rest):Tr c D sl hs (yQ c D Φ sI hI):=
 fun a w bh=>⟨j,hΦ,bh.weaken hs1 ht⟩
def PE (c:Cx) (D:List Nat) {ι:Type} (Φ:ι→Prop) (sM:ι→aH) (hM:ι→List bd):Act→World→Prop:=fun a w=>∃ x,Φ x∧St c D (sM x) (hM x) a w
theorem Ez (x:ι) {sM:ι→aH} {hM:ι→List bd} {rest:List bd} (hΦ:Φ x) (h1:lB sl (sM x)) (ht:bD hs (hM x) rest):Tr c D sl hs (PE c D Φ sM hM):=fun a w bh=>⟨x,hΦ,bh.weaken h1 ht⟩
variable {ops:Array Oper} {d:Nat} {dst:Option Tmp} {ty:TypeId} {pos:String} {af:Array Edge} {g:Option (Nat×Bool)} {rest:List Oper}
theorem Gb {t:TypeId} {x:Operand} {s:ByteArray} [hu:iV P t .string] (hx:Is sl x (.string s)):qI P c sl hs ⟨dst,.range t x,ty,pos,af,g⟩ (fun b=>.pointer (some ⟨b,0,none⟩)) (.stringIter s 0):=
 ⟨by simp,fun a w ha _=>by simp [execOp,hx a ha,Instr.range,aV hu.eq]⟩
theorem Hs {x:Operand} {b p:Nat} {s:ByteArray} (hx:Is sl x (.pointer (some ⟨b,0,none⟩))) (ht:Take hs (bH b (.stringIter s p)) hs') (hd:Nat.blt d c.nt=true)
  (kt:p<s.size→Tr c D ((d,.tuple [Value.bool true,.int .i64 p,.int .i32 (Utf8.decode s p).1].toArray)::sl) (bH b (.stringIter s (p+(Utf8.decode s p).2))::hs') (WL P r ops Q rest))
  (kf:¬ p<s.size→Tr c D ((d,.tuple [Value.bool false].toArray)::sl) (bH b (.stringIter s p)::hs') (WL P r ops Q rest)) :
  Tr c D sl hs (WL P r ops Q (⟨some d,.next x true,ty,pos,af,none⟩::rest)):=fun a w bh=>by
 have hm:=bh.mem.take (ht.append _)
 have hb:w.heap[b]? = some (.stringIter s p):=hm.bH .here
 have aM:=j8 (w:=w) hb
 refine mr rfl ⟨dN _ _ _ _ _,?_⟩
 rw [Oper.semAt_eq _ _ _ (by simp)]
 by_cases h:p<s.size
 ·have:(execOp a.eval ⟨some d,.next x true,ty,pos,af,none⟩).run P w=.ok (.value (.tuple [Value.bool true,.int .i64 p,.int .i32 (Utf8.decode s p).1].toArray)) (setBlock w b (.stringIter s (p+(Utf8.decode s p).2))):=by
   simp [execOp,hx a bh.c5,Instr.next,getObj,setObj,Sem.run,hb,h,goInt,setBlock]
  rw [this]
  exact kt h _ _ ((bh.put (by simpa [Z2] using hd) _).heap (Mem.store hm (aJ.setBlock w b _) (l9 aM)))
 ·have:(execOp a.eval ⟨some d,.next x true,ty,pos,af,none⟩).run P w=.ok (.value (.tuple [Value.bool false].toArray)) w:=by
   simp [execOp,hx a bh.c5,Instr.next,getObj,Sem.run,hb,h]
  rw [this]
  exact kf h _ _ ((bh.put (by simpa [Z2] using hd) _).heap hm)
structure KeyLaw (kind:TypeDesc) {κ:Type} [DecidableEq κ] (kv:κ→Value):Prop where
 same:∀ a b,Instr.sameNow kind (kv a) (kv b)=some (decide (a=b))
 bits:∀ a,Instr.sameBits 10000 (kv a) (kv a)=true
 flat:∀ (P:Program) (t:TypeId) (e:Bool) (w:World) (a:κ),P.underlying t=some kind→(Instr.checkKey e 10000 t (kv a)).run P w=.ok () w
structure IA {κ:Type} (kv:κ→Value) (l:List (κ×Value)) (es:Array MapEntry) (ck:Nat):Prop where
 eq:es.toList.map (fun e=>(e.key,e.val))=l.map (fun p=>(kv p.1,p.2))
 nd:(es.toList.map (·.born)).Nodup
 lt:∀ x∈es.toList,x.born<ck
def mp {κ:Type} (kv:κ→Value) (b:Nat) (l:List (κ×Value)):bd where
 sat h fp:=fp=[b]∧∃ es clock,h b=some (.map es clock)∧IA kv l es clock
 loc:=fun ⟨e,es,ck,h1,h2⟩ hb=>⟨e,es,ck,by rw [hb _ (by rw [e];simp)];exact h1,h2⟩
 own:=fun ⟨e,es,ck,h1,h2⟩ b' dz=>by rw [e] at dz;rw [ZB.1 dz];exact ⟨_,h1⟩
def eD {κ:Type} [DecidableEq κ] (k:κ):List (κ×Value)→Option Value
 | []=>none
 | (x,v)::r=>if k=x then some v else eD k r
def mN {κ:Type} [DecidableEq κ] (k:κ) (v:Value):List (κ×Value)→List (κ×Value)
 | []=>[(k,v)]
 | (x,u)::r=>if k=x then (x,v)::r else (x,u)::mN k v r
section
variable {κ:Type} [DecidableEq κ] {kv:κ→Value} {kind:TypeDesc}
theorem findNow_spec (hk:KeyLaw kind kv) (k:κ):∀ (es:List MapEntry) (l:List (κ×Value)) (i:Nat),es.map (fun e=>(e.key,e.val))=l.map (fun p=>(kv p.1,p.2)) →
  (eD k l=none∧Instr.findNow kind (kv k) es i=some none) ∨
  (∃ j v,eD k l=some v∧Instr.findNow kind (kv k) es i=some (some (i+j,v))∧j<es.length∧(∃ x,l[j]? = some (x,v)∧x=k)∧∀ u,mN k u l=l.set j (k,u))
 | [],[],i,_=>.inl ⟨rfl,rfl⟩
 | [],_::_,i,h=>by simp at h
 | _::_,[],i,h=>by simp at h
 | e :: es, (x, v) :: l, i, h => by
  simp only [Z8,List.cons.injEq,Prod.mk.injEq] at h
  obtain ⟨⟨h1,h2⟩,h3⟩:=h
  have hs:=hk.same k x
  unfold Instr.findNow
  rw [h1,hs]
  by_cases e':k=x
  ·subst e'
   refine .inr ⟨0,v,by simp [eD],by simp [h2],by simp,⟨k,by simp,rfl⟩,fun u=>by simp [mN]⟩
  ·simp only [e',decide_false]
   rcases findNow_spec hk k es l (i+1) h3 with ⟨a1,a2⟩ | ⟨j,u,a1,a2,a3,⟨y,a4,a5⟩,a6⟩
   ·exact .inl ⟨by simp [eD,e',a1],a2⟩
   ·exact .inr ⟨j+1,u,by simp [eD,e',a1],by rw [a2];congr 3;omega,by simp;omega,⟨y,by simpa using a4,a5⟩,fun u'=>by simp [mN,e',a6 u']⟩
theorem yO {k:κ} {v:Value}:∀ {l:List (κ×Value)},eD k l=none→mN k v l=l++[(k,v)]
 | [],_=>rfl
 | (x, u) :: r, h => by
  simp only [eD] at h
  split at h
  ·cases h
  ·rename_i e;simp [mN,e,yO h]
theorem C4 {t:TypeId} (kv:κ→Value) (hd:Nat.blt d c.nt=true) (k:∀ b,c.w0.heap.size≤b→Tr c D ((d,.map (some b))::sl) (mp kv b []::hs) (WL P r ops Q rest)) :
  Tr c D sl hs (WL P r ops Q (⟨some d,.makeMap t none,ty,pos,af,none⟩::rest)):=
 br Dn hd fun b hb a w bh=>k b hb a w (bh.heap (by
  obtain ⟨kk,fp,hn,⟨f1,f2,rfl,⟨e,h1⟩,h2⟩,DU⟩:=bh.mem
  exact ⟨kk,f1++f2,hn,⟨f1,f2,rfl,⟨e,#[],0,h1,rfl,Zaj,fun _ h=>by cases h⟩,h2⟩,DU⟩))
def Looks (c:Cx) (hs:List bd) (b:Nat) (kv:κ→Value) (l:List (κ×Value)):Prop:=∀ w,Mem c hs w→∃ es clock,w.heap[b]? = some (.map es clock)∧IA kv l es clock
theorem Looks.mp {b:Nat} {l:List (κ×Value)} (ht:Take hs (SL.mp kv b l) hs'):Looks c hs b kv l:=fun w hm=>by
 obtain ⟨_,fp,_,⟨f1,f2,_,⟨_,es,ck,h1,h2⟩,_⟩,_⟩:=hm.take ht
 exact ⟨es,ck,h1,h2⟩
theorem Gc {t kt et:TypeId} {x y:Operand} {b:Nat} {k:κ} {l:List (κ×Value)} {z:Value} [hu:iV P t (.map kt et)] [GA:iV P kt kind] [hz:lZ P et z] (hk:KeyLaw kind kv) (hx:Is sl x (.map (some b))) (hy:Is sl y (kv k)) (hl:Looks c hs b kv l) :
  cY P c sl hs ⟨dst,.lookup t x y false,ty,pos,af,g⟩ ((eD k l).getD z):=
 ⟨by
   simp,fun a w ha hm=>by
  obtain ⟨es,ck,h1,h2⟩:=hl w hm
  have hg:(getObj b).run P w=.ok (.map es ck) w:=by simp [getObj,Sem.run,h1]
  have wy:=hk.flat P kt es.isEmpty w k GA.eq
  rcases findNow_spec hk k es.toList l 0 h2.eq with ⟨a1,a2⟩ | ⟨j,v,a1,a2,_⟩
  ·have:(Instr.findKey kt (kv k) es.toList).run P w=.ok none w:=by
    simp [Instr.findKey,aV GA.eq,a2]
   simp [execOp,hx a ha,hy a ha,Instr.lookup,aV hu.eq,hg,wy,this,a1,iv (t:=et) (v:=z)]
  ·have:(Instr.findKey kt (kv k) es.toList).run P w=.ok (some (0+j,v)) w:=by
    simp [Instr.findKey,aV GA.eq,a2]
   simp [execOp,hx a ha,hy a ha,Instr.lookup,aV hu.eq,hg,wy,this,a1]⟩
theorem mV {t kt et:TypeId} {x y v':Operand} {b:Nat} {k:κ} {v:Value} {l:List (κ×Value)} [hu:iV P t (.map kt et)] [GA:iV P kt kind] (hk:KeyLaw kind kv) (hx:Is sl x (.map (some b))) (hy:Is sl y (kv k)) (hv:Is sl v' v) (ht:Take hs (mp kv b l) hs')
  (kk:Tr c D sl (mp kv b (mN k v l)::hs') (WL P r ops Q rest)):Tr c D sl hs (WL P r ops Q (⟨none,.mapUpdate t x y v',ty,pos,af,none⟩::rest)):=fun a w bh=>by
 have hm:=bh.mem.take (ht.append _)
 obtain ⟨kk0,fp,hn,⟨f1,f2,rfl,⟨e,es,ck,h1,h2⟩,h3⟩,DU⟩:=hm
 have CR:w.heap[b]? = some (.map es ck):=h1
 have hm:Mem c ([mp kv b l]++(hs'++mE D)) w:=⟨kk0,f1++f2,hn,⟨f1,f2,rfl,⟨e,es,ck,h1,h2⟩,h3⟩,DU⟩
 have hg:(getObj b).run P w=.ok (.map es ck) w:=by simp [getObj,Sem.run,CR]
 have wW:∀ o,(setObj b o).run P w=.ok () (setBlock w b o):=fun o=>by simp [setObj,Sem.run,CR,setBlock]
 have wy:=hk.flat P kt false w k GA.eq
 have aM:=j8 (w:=w) CR
 have gF:∃ NU U8,(execOp a.eval ⟨none,.mapUpdate t x y v',ty,pos,af,none⟩).run P w=.ok .skip (setBlock w b (.map NU U8))∧IA kv (mN k v l) NU U8:=by
  rcases findNow_spec hk k es.toList l 0 h2.eq with ⟨a1,a2⟩ | ⟨j,v0,a1,a2,hj,⟨x0,QE,rfl⟩,pB⟩
  ·have hf:(Instr.findKey kt (kv k) es.toList).run P w=.ok none w:=by
    simp [Instr.findKey,aV GA.eq,a2]
   refine ⟨es.push { key:=kv k,val:=v,born:=ck },ck+1,?_,?_⟩
   ·simp [execOp,hx a bh.c5,hy a bh.c5,hv a bh.c5,Instr.mapUpdate,aV hu.eq,hg,wy,hf,wW]
   ·refine ⟨?_,?_,?_⟩
    ·rw [yO a1]
     simp [h2.eq]
    ·simp only [Array.toList_push,Zs,Z8,Zf]
     refine ZH.2 ⟨h2.nd,by simp,fun x hx y hy e=>?_⟩
     obtain ⟨z,hz,rfl⟩:=Zt.1 hx
     have:=h2.lt z hz
     simp at hy;omega
    ·intro x hx
     rw [Array.toList_push,Zx] at hx
     rcases hx with hx | hx
     ·have:=h2.lt x hx;omega
     ·simp at hx;subst hx;show ck<ck+1;omega
  ·have hf:(Instr.findKey kt (kv x0) es.toList).run P w=.ok (some (0+j,v0)) w:=by
    simp [Instr.findKey,aV GA.eq,a2]
   have vC:(es[j]?.map (·.key)).getD (kv x0)=kv x0:=by
    have h5:(es.toList.map (fun e=>(e.key,e.val)))[j]? = some (kv x0,v0):=by rw [h2.eq];simp [QE]
    rw [ZF] at h5
    obtain ⟨e0,AP,J9⟩:=Zak.1 h5
    simp only [Prod.mk.injEq] at J9
    have:es[j]? = some e0:=by simpa using AP
    simp [this,J9.1]
   have Xy:(Instr.keyThatStays (kv x0) (kv x0)).run P w=.ok (kv x0) w:=by simp [Instr.keyThatStays,hk.bits]
   refine ⟨es.modify j fun e=>{ e with key:=kv x0,val:=v },ck,?_,?_⟩
   ·simp only [execOp,hx a bh.c5,hy a bh.c5,hv a bh.c5,Instr.mapUpdate,Sem.run_bind,aV hu.eq,Result.andThen_ok,hg,wy,hf,ZC,vC,Xy,wW,Sem.run_pure]
   ·have O5:((es.modify j fun e=>{ e with key:=kv x0,val:=v }).toList.map (·.born))=es.toList.map (·.born):=by
     rw [Array.toList_modify]
     apply Zap
     intro q
     rw [ZF,ZF,List.getElem?_modify]
     by_cases SF:j=q
     ·subst SF;cases es.toList[j]? <;> simp
     ·simp [SF]
    refine ⟨?_,by rw [O5];exact h2.nd,fun x hx=>?_⟩
    rotate_left
    ·have:x.born∈es.toList.map (·.born):=by rw [← O5];exact Zt.2 ⟨x,hx,rfl⟩
     obtain ⟨y,hy,e⟩:=Zt.1 this
     rw [← e];exact h2.lt y hy
    rw [pB]
    rw [Array.toList_modify]
    apply Zap
    intro q
    rw [ZF,ZF,List.getElem?_modify,List.getElem?_set]
    have hq:(es.toList.map (fun e=>(e.key,e.val)))[q]? = (l.map (fun p=>(kv p.1,p.2)))[q]?:=by rw [h2.eq]
    rw [ZF,ZF] at hq
    have hlen:es.toList.length=l.length:=by have:=congrArg List.length h2.eq;simpa using this
    by_cases SF:j=q
    ·subst SF
     have Lz:j<l.length:=by rw [← hlen];exact hj
     have he:es.toList[j]? = some es.toList[j]:=Zc hj
     rw [he,if_pos rfl,if_pos Lz];simp
    ·rw [if_neg SF,← hq];simp [SF]
 obtain ⟨NU,U8,hr,eJ⟩:=gF
 refine mr rfl ⟨dN _ _ _ _ _,?_⟩
 rw [Oper.semAt_eq _ _ _ (by simp),hr]
 refine kk _ _ (bh.heap ?_)
 have:=Mem.change (Bs:=[mp kv b (mN k v l)]) (w':=setBlock w b (.map NU U8)) hm fun fp uo hf=>by
  obtain ⟨g1,g2,e1,TY,e2⟩:=hf
  have GB:fp=[b]:=by rw [e1,show g2=[] from e2,TY.1];rfl
  subst GB
  exact ⟨aJ.setBlock w b _,[b],by simp,⟨[b],[],rfl,⟨rfl,NU,U8,l9 aM,eJ⟩,rfl⟩,fun q hq=>.inl hq⟩
 simpa using this
end
theorem IK:KeyLaw .string (fun s:ByteArray=>Value.string s) where
 same a b:=by
  simp only [Instr.sameNow]
  congr 1
  rw [beq_toListBytes,tY]
 bits a:=by unfold Instr.sameBits;simp [beq_toListBytes]
 flat P t e w a h:=by unfold Instr.checkKey;simp [aV h]
end
end Go.SL
namespace Go.SL
open Go
def NT {ι:Type} (Φ:ι→Prop) (A:ι→List bd):bd where
 sat h fp:=∃ x,Φ x∧ct h (A x) fp
 loc:=fun ⟨x,hx,hs⟩ hb=>⟨x,hx,hs.loc hb⟩
 own:=fun ⟨_,_,hs⟩ b hb=>hs.own b hb
section
variable {P:Program} {r:Option Nat} {c:Cx} {D:List Nat} {sl:aH} {hs hs':List bd} {Q:Exit→Act→World→Prop} {ι:Type}
theorem Ga {l:Nat} {f:FuncId} {tmps:Array Value} {El body:Code} {w:World} {R:Ending→World→Prop} (h:RoundIn (FR none) 0 P l f tmps El body w R):RoundIn (FR r) 0 P l f tmps El body w R:=h
variable {ops:Array Oper} {d:Nat} {ty:TypeId} {pos:String} {af:Array Edge} {rest:List Oper}
def fR (rc:Loop) (s:LoopState) (pd:Option Code):Obj:=.loop { rc with state:=s,pending:=pd }
def oT (md:List Nat) (w:World) (post:Bool→bd):Ending→World→Prop:=fun e W'=>∃ b,e=.returned (.bool b)∧aJ md w W'∧∃ lH:List Nat,lH.Nodup∧(post b).sat (hp W') lH∧∀ x∈lH,x∈md∨w.heap.size≤x
def Er (P:Program) (l:Nat) (body:Code) (R:Ending→World→Prop):Act→World→Prop:=fun a₁ w₁=>∃ w₂,(Instr.beginRound l).run P w₁=.ok () w₂∧body.wpIn (FR (some l)) 0 P (roundPost P l R) a₁ w₂
theorem mw {l:Nat} {rc:Loop} {body:Code} {R:Ending→World→Prop} {pd:Option Code} (ht:Take hs (bH l (fR rc .ready pd)) hs') (k:Tr c D sl (bH l (fR rc .busy pd)::hs') (WP P (some l) body (roundPost P l R))):Tr c D sl hs (Er P l body R):=fun a w bh=>by
 have hm:=bh.mem.take (ht.append _)
 have hb:w.heap[l]? = some (fR rc .ready pd):=hm.bH .here
 refine ⟨w.putObj l (fR rc .busy pd),run_beginRound (r:={ rc with state:=.ready,pending:=pd }) hb rfl,k a _ (bh.heap (Mem.store hm ⟨rfl,rfl,rfl,Zz _,by simp,fun k _ hn=>World.putObj_heap_other (by simpa using hn)⟩ (World.putObj_heap_same (j8 (w:=w) hb))))⟩
theorem xY {l:Nat} {rc:Loop} {post:Bool→bd} {s:LoopState} {pd jump:Option Code} (ht:Take hs (bH l (fR rc s pd)) hs') {hs2:List bd} (ht2:∀ w,Mem c (bH l (fR rc (if jump.isNone then .ready else .done) jump)::hs') w→∃ fp:List Nat,fp.Nodup∧(post jump.isNone).sat (hp w) fp∧∀ b∈fp,c.w0.heap.size≤b∨b∈c.md)
  {a:Act} {w:World} (bh:St c D sl hs a w):∃ v w',(Instr.endRound l jump).run P w=.ok v w'∧oT c.md c.w0 post (.returned v) w':=by
 have _:=hs2
 have hm:=bh.mem.take (ht.append _)
 have hb:w.heap[l]? = some (fR rc s pd):=hm.bH .here
 have hk:aJ [l] w (w.putObj l (fR rc (if jump.isNone then .ready else .done) jump)):=⟨rfl,rfl,rfl,Zz _,by simp,fun k _ hn=>World.putObj_heap_other (by simpa using hn)⟩
 have ml:=Mem.store hm hk (World.putObj_heap_same (j8 (w:=w) hb))
 refine ⟨.bool jump.isNone,_,run_endRound (r:={ rc with state:=s,pending:=pd }) jump hb,jump.isNone,rfl,ml.keeps,?_⟩
 obtain ⟨fp,h1,h2,h3⟩:=ht2 _ (by have:=ml;rw [← Zb] at this;exact this.lx)
 exact ⟨fp,h1,h2,fun b hb=>(h3 b hb).symm⟩
theorem HS {Φ:ι→Prop} {A:ι→List bd} (x:ι) (hx:Φ x) {As rest:List bd} (ht:bD As (A x) rest) {w:World} (hm:Mem c As w):∃ fp:List Nat,fp.Nodup∧(NT Φ A).sat (hp w) fp∧∀ b∈fp,c.w0.heap.size≤b∨b∈c.md:=by
 obtain ⟨_,fp,hn,iz,hb⟩:=hm.jo ht
 obtain ⟨f1,f2,rfl,h1,_⟩:=ct.append_iff.1 iz
 exact ⟨f1,(ZH.1 hn).1,⟨x,hx,h1⟩,fun b dz=>hb b (ZE _ dz)⟩
theorem F1 {l:Nat} {rc:Loop} {post:Bool→bd} {s:LoopState} {pd:Option Code} {Φ:ι→Prop} {A:ι→List bd} (x:ι) {rest:List bd} (AM:post true=NT Φ A) (ht:Take hs (bH l (fR rc s pd)) hs') (hx:Φ x) (h2:bD (bH l (fR rc .ready none)::hs') (A x) rest) :
  Tr c D sl hs (roundPost P l (oT c.md c.w0 post) .normal):=fun _ _ bh=>
 xY (jump:=none) (hs2:=[]) ht (fun w hm=>by show ∃ fp:List Nat,fp.Nodup∧(post true).sat (hp w) fp∧_;rw [AM];exact HS x hx h2 hm) bh
theorem F0 {l:Nat} {rc:Loop} {post:Bool→bd} {s:LoopState} {pd:Option Code} {Φ:ι→Prop} {A:ι→List bd} (x:ι) {rest:List bd} (AM:post false=NT Φ A) (ht:Take hs (bH l (fR rc s pd)) hs') (hx:Φ x) (h2:bD (bH l (fR rc .done (some .ret))::hs') (A x) rest) :
  Tr c D sl hs (roundPost P l (oT c.md c.w0 post) .ret):=fun _ _ bh=>
 xY (jump:=some .ret) (hs2:=[]) ht (fun w hm=>by show ∃ fp:List Nat,fp.Nodup∧(post false).sat (hp w) fp∧_;rw [AM];exact HS x hx h2 hm) bh
def mh:List (Nat×Value)→aH→aH
 | [],sl=>sl
 | (t,v)::r,sl=>mh r ((t,v)::sl)
theorem yi {nt:Nat}:∀ (ps:List (Nat×Value)) (sl:aH) (tmps:Array Value),bU sl ⟨tmps,[]⟩→tmps.size=nt→(∀ p∈ps,p.1<nt) →
  bU (mh ps sl) ⟨ps.foldl (fun t p=>t.setIfInBounds p.1 p.2) tmps,[]⟩∧(ps.foldl (fun (t:Array Value) p=>t.setIfInBounds p.1 p.2) tmps).size=nt
 | [],sl,tmps,h,hn,_=>⟨h,hn⟩
 | (t, v) :: ps, sl, tmps, h, hn, hp => by
  have h1:=h.put (d:=t) (by show t<tmps.size;rw [hn];exact hp (t,v) (by simp)) v
  exact yi ps ((t,v)::sl) (tmps.setIfInBounds t v) h1 (by simpa using hn) (fun q hq=>hp q (by simp [hq]))
theorem y8 {g:Operand} {ps:Array Tmp} {El body:Code} {f:FuncId} {first cap:List Value} (hg:Is sl g (.func (.func f) first.toArray cap.toArray)) [bR P f]
  {As:Nat→Loop→List bd} {rest:List bd} {Φ:Nat→Loop→ι→Prop} {own:Nat→Loop→ι→List bd} {st:ι→LoopState} {pd:ι→Option Code}
  (ht:∀ l rc,bD (bH l (fR rc .ready none)::hs) (As l rc) rest) (bh:∀ x,st x≠.busy)
  (hc:∀ l rc,rc.params=ps→rc.assign=El→rc.body=body→bU sl ⟨rc.tmps,[]⟩→rc.tmps.size=c.nt→∀ w fp,Mem c (bH l (fR rc .ready none)::hs) w→fp.Nodup→ct (hp w) (As l rc) fp→(∀ b∈fp,c.w0.heap.size≤b∨b∈c.md) →
   bu P f (first++[Value.func (Fn.yield l) #[] #[]]++cap) w fp (Φ l rc) (fun _=>Value.tuple #[]) (fun x=>bH l (fR rc (st x) (pd x))::own l rc x))
  (kn:∀ l rc x b,Φ l rc x→pd x=none→Tr c (b::D) sl (own l rc x++rest) (Q .normal))
  (kj:∀ l rc x b j,Φ l rc x→pd x=some j→Tr c (b::D) sl (own l rc x++rest) (WP P none j Q)) :
  Tr c D sl hs (WP P none (.rangeFunc g ps El body) Q):=fun a w hs0=>by
 refine wpIn_rangeFunc fun fn _=>?_
 let rc:Loop:={ state:=.ready,pending:=none,fn,tmps:=a.tmps,params:=ps,assign:=El,body,defers:=w.heap.size }
 let l:=w.heap.size+1
 let w1:=(w.alloc (.deferred (some []))).alloc (.loop rc)
 have W8:fR rc .ready none=.loop rc:=rfl
 -- AJ state behind AJ record
 have aR:Mem c (bH w.heap.size (.deferred (some []))::(hs++mE D)) (w.alloc (.deferred (some []))):=hs0.mem.alloc _
 have ml:Mem c (bH l (fR rc .ready none)::bH w.heap.size (.deferred (some []))::(hs++mE D)) w1:=by
  have:=aR.alloc (.loop rc)
  simpa [l,w1,W8] using this
 -- P8: AJ record and hs ahead,AJ new mark abb AJ marks
 have VI:Mem c ((bH l (fR rc .ready none)::hs)++mE (w.heap.size::D)) w1:=by
  obtain ⟨k,fp,hn,⟨f1,f2,rfl,h1,⟨f3,f4,rfl,h3,h4⟩⟩,hb⟩:=ml
  obtain ⟨f5,f6,rfl,h5,h6⟩:=ct.append_iff.1 h4
  have ig:(f1++(f3++(f5++f6))).Perm ((f1++f5)++(f3++f6)):=by
   rw [Zh]
   refine List.Perm.append_left f1 ?_
   rw [← Zh,← Zh]
   exact List.perm_append_comm.append_right f6
  refine ⟨k,(f1++f5)++(f3++f6),ig.nodup_iff.1 hn,ct.append_iff.2 ⟨f1++f5,f3++f6,rfl,⟨f1,f5,rfl,h1,h5⟩,⟨f3,f6,rfl,h3,h6⟩⟩,fun b dz=>hb b (ig.mem_iff.2 dz)⟩
 have htk:=ht l rc
 obtain ⟨k4,fp,hn,iz,hb⟩:=VI.jo (htk.append (mE (w.heap.size::D)))
 obtain ⟨f1,f2,rfl,h1,h2⟩:=ct.append_iff.1 iz
 have cz:=hc l rc rfl rfl rfl hs0.c5 hs0.size w1 f1 VI.lx (ZH.1 hn).1 h1 (fun b dz=>hb b (ZE _ dz))
 refine ⟨l,[{ target:=.collected w.heap.size,args:=#[] }],w1,{ target:=.fn (.func f) cap.toArray,args:=first.toArray++#[.func (.yield l) #[] #[]] },w1,f,(first++[Value.func (Fn.yield l) #[] #[]]++cap).toArray,w1,run_enterLoop_outer fn a.tmps ps El body,?_,fun _ _=>trivial,?_,by simp [FR,Fence.wide],?_⟩
 ·have:=hg a hs0.c5
  simp only [resolve,rangeCall,Deferred.ofValue,this,Sem.run_bind,Sem.run_pure,Result.andThen_ok]
  simp [Act.eval,l]
 ·simp only [invoke]
  rw [sY]
  simp
 ·refine (ij (r:=none) cz).mono fun e w' ⟨x,he,hx,hk,lH,uo,hs',yC⟩=>?_
  subst he
  obtain ⟨g1,g2,rfl,Nr,rC⟩:=hs'
  obtain ⟨rfl,hl⟩:=Nr
  have B5:w'.heap[l]? = some (fR rc (st x) (pd x)):=hl
  refine ⟨pd x,w'.putObj l (fR rc .exhausted (pd x)),run_endLoop (r:={ rc with state:=st x,pending:=pd x }) B5 (bh x),?_⟩
  -- AJ state behind it all
  obtain ⟨n1,n2,n12⟩:=ZH.1 hn
  have aM:∀ b∈f2,b<w1.heap.size:=fun b dz=>let ⟨o,ho⟩:=h2.own b dz;j8 ho
  have hm5:Mem c (bH l (fR rc (st x) (pd x))::(own l rc x++(rest++mE (w.heap.size::D)))) w':=by
   refine ⟨?_,(([l]++g2)++f2),?_,?_,?_⟩
   ·refine ⟨hk.os.trans k4.os,hk.tape.trans k4.tape,hk.output.trans k4.output,ZX k4.dr hk.dr,ZX k4.size hk.size,fun b dz hm=>?_⟩
    rw [← k4.block b dz hm]
    refine hk.block b (ZaI dz k4.size) (fun hf=>?_)
    rcases hb b (ZE _ hf) with h | h
    ·omega
    ·exact hm h
   ·refine ZH.2 ⟨uo,n2,fun x hx y hy e=>?_⟩
    subst e
    rcases yC x hx with h | h
    ·exact n12 x h x hy rfl
    ·have:=aM x hy;omega
   ·rw [Zh]
    exact ⟨[l],g2++f2,rfl,⟨rfl,hl⟩,ct.append_iff.2 ⟨g2,f2,rfl,rC,h2.loc fun b dz=>hk.block b (aM b dz) (fun hf=>n12 b hf b dz rfl)⟩⟩
   ·intro b dz
    rcases Zx.1 dz with h | h
    ·rcases yC b h with h | h
     ·exact hb b (ZE _ h)
     ·exact .inl (ZX k4.size h)
    ·exact hb b (ZT _ h)
  have hm6:Mem c ((own l rc x++rest)++mE (w.heap.size::D)) (w'.putObj l (fR rc .exhausted (pd x))):=by
   have:=(Mem.store hm5 (w':=w'.putObj l (fR rc .exhausted (pd x))) ⟨rfl,rfl,rfl,Zz _,by simp,fun k _ hn=>World.putObj_heap_other (by simpa using hn)⟩ (World.putObj_heap_same (j8 (w:=w') B5))).vN
   rwa [Zh]
  have Gu:St c (w.heap.size::D) sl (own l rc x++rest) { a with defers:=[{ target:=.collected w.heap.size,args:=#[] }]++a.defers } (w'.putObj l (fR rc .exhausted (pd x))):=
   ⟨hm6,hs0.c5,hs0.size,by simp [hs0.defers,mark]⟩
  cases hj:pd x with
  | none=>rw [hj] at Gu;exact kn l rc x w.heap.size hx hj _ _ Gu
  | some j=>rw [hj] at Gu;exact kj l rc x w.heap.size j hx hj _ _ Gu
end
end Go.SL
namespace Go.SL
open Go
section
variable {P:Program} {c:Cx} {sl:aH} {hs:List bd} {dst:Option Tmp} {ty:TypeId} {pos:String} {af:Array Edge} {g:Option (Nat×Bool)}
theorem Am {t e:TypeId} (hu:iV P t (.slice e)):P.elem t=e:=by simp [Program.elem,hu.eq]
theorem o6 {t e:TypeId} (hu:iV P t (.slice e)):P.underlying t=some (.slice (P.elem t)):=by rw [Am hu];exact hu.eq
theorem value_of {i:Sem Value} {v:Value} {w:World} (h:i.run P w=.ok v w):(do let x ← i;pure (Next.value x):Sem Next).run P w=.ok (.value v) w:=by
 rw [Sem.run_bind,h];rfl
theorem hY {t e:TypeId} {n:Nat} {agg:Bool} {x y:Operand} {a:Option Addr} {len cap:Nat} {k:IntKind} {h:Int} [hu:iV P t (.slice e)] [Ty P e agg n] (hx:Is sl x (.slice a len cap)) (hy:Is sl y (.int k h)) (h0:0≤h) (h1:h≤cap) :
  cY P c sl hs ⟨dst,.slice t x none (some y) none,ty,pos,af,g⟩ (sliced a 0 h.toNat cap n):=
 ⟨by simp,fun ac w ha _=>by
  have:=run_slice_h (P:=P) w t a len cap (o6 hu) k h h0 h1
  simp only [execOp,hx ac ha,hy ac ha,Option.map]
  refine value_of ?_
  rw [run_sliceAt_slice _ _ _ _ _ _ (o6 hu),this,Am hu,fQ (n:=n) (agg:=agg)]
  rfl⟩
theorem pW {t e:TypeId} {n:Nat} {agg:Bool} {x y:Operand} {a:Option Addr} {len cap:Nat} {k:IntKind} {h:Int} [hu:iV P t (.slice e)] [Ty P e agg n] (hx:Is sl x (.slice a len cap)) (hy:Is sl y (.int k h)) (h0:0≤h) (h1:h≤len) :
  cY P c sl hs ⟨dst,.slice t x (some y) none none,ty,pos,af,g⟩ (sliced a h.toNat len cap n):=
 ⟨by simp,fun ac w ha _=>by
  have:=run_slice_l (P:=P) w t a len cap (o6 hu) k h h0 h1
  simp only [execOp,hx ac ha,hy ac ha,Option.map]
  refine value_of ?_
  rw [run_sliceAt_slice _ _ _ _ _ _ (o6 hu),this,Am hu,fQ (n:=n) (agg:=agg)]
  rfl⟩
theorem bT {t:TypeId} {n:Nat} {x:Operand} {b o:Nat} {cs vs:List Value} {E:TypeId} {fz:Nat×Nat} {hs':List bd} [Ty P t true n] (hx:Is sl x (.pointer (some ⟨b,o,none⟩))) (ht:Take hs (SL.bH b (.cells cs.toArray E fz)) hs') (hv:ed cs o n=vs) (hl:vs.length=n) :
  cY P c sl hs ⟨dst,.load t x,ty,pos,af,g⟩ (.agg vs.toArray):=jc hx (ew.bH ht hv) hl
theorem bF {r:Option Nat} {D:List Nat} {ops:Array Oper} {Q:Exit→Act→World→Prop} {d:Nat} {rest:List Oper} {hs' hs2:List bd} {t e:TypeId} {agg:Bool} {size bytes:Nat} {z:Value} {x y:Operand} {v:Value} {n b o m cp:Nat} {xs news cs:List Value} {E:TypeId} {fz:Nat×Nat} [iV P t (.slice e)] [Ty P e agg size] [lZ P e z] [wE P e bytes]
  (hx:Is sl x v) (hy:Is sl y (.slice (some ⟨b,o,none⟩) m cp)) (ht:Take hs (row e size v n xs) hs') (ht2:Take hs (SL.bH b (.cells cs.toArray E fz)) hs2) (hv:ed cs o (m*size)=news) (hl:news.length=m*size) (h1:∀ u∈news,u.oneCell'=true) (hz:z.cells.size=size) (hsz:Nat.blt 0 size=true) (hb0:Nat.blt 0 bytes=true)
  (hb:(n+m)*bytes≤140737488355328) (hd:Nat.blt d c.nt=true)
  (k:∀ v',Tr c D ((d,v')::sl) (row e size v' (n+m) (xs++news)::hs') (WL P r ops Q rest)) :
  Tr c D sl hs (WL P r ops Q (⟨some d,.call ⟨.builtin .append,#[x,y],#[t,t]⟩,ty,pos,af,none⟩::rest)):=
 xM hx hy ht (ew.bH ht2 hv) hl h1 hz hsz hb0 hb hd k
theorem kR {fn:Func} {t:Tmp} {T:TypeId} {b o n:Nat} {cs vs:List Value} {E:TypeId} {fz:Nat×Nat} {hs':List bd} (h:fn.results=#[.cell t T]) (hT:Ty P T true n) (hp:cS sl t=some (.pointer (some ⟨b,o,none⟩))) (ht:Take hs (SL.bH b (.cells cs.toArray E fz)) hs') (hv:ed cs o n=vs) (hl:vs.length=n):Ends P fn c sl hs (.agg vs.toArray):=
 NV h hp (ew.bH ht hv) hl
theorem Hu {r:Option Nat} {D:List Nat} {ops:Array Oper} {Q:Exit→Act→World→Prop} {d:Option Tmp} {op:Op} {rest:List Oper} {j gs:Nat} {want:Bool} (hj:((ops[j]?).bind (·.dst))=some gs) (hq:cS sl gs=some (.bool want))
  (k:Tr c D sl hs (WL P r ops Q (⟨d,op,ty,pos,af,none⟩::rest))):Tr c D sl hs (WL P r ops Q (⟨d,op,ty,pos,af,some (j,want)⟩::rest)):=fun a w bh=>by
 have h:=k a w bh
 unfold WL at h ⊢
 rw [if_pos (by simp [Region.wanted])] at h
 rw [kW (o:=⟨d,op,ty,pos,af,some (j,want)⟩) (c0:=true) rfl hj bh.c5 (by rw [hq];rfl),if_pos (by simp)]
 exact h
theorem Rd.sliced {w:World} {a:Option Addr} {len cap sz:Nat} {xs:List (List Value)} (h:Rd w (.slice a len cap) sz xs) {l m:Nat} (hl:l≤m) (hm:m≤len):Rd w (Go.sliced a l m cap sz) sz ((xs.take m).drop l):=by
 obtain ⟨a',gL,b,o,e,h1,h2,h3,h4⟩:=h
 cases e
 have e:((xs.take m).drop l).length=m-l:=by simp;omega
 by_cases hc:cap=l
 ·refine ⟨a,cap-l,b,o,?_,by omega,by omega,fun hn=>?_,fun i r hr=>?_⟩
  ·simp [Go.sliced,hc,e]
  ·exact absurd (Z0 (by omega)) hn
  ·have:=(Zl.1 hr).1;omega
 ·refine ⟨a.map (·.add (l*sz)),cap-l,b,o+l*sz,?_,by omega,by omega,fun hn=>?_,fun i r hr=>?_⟩
  ·simp [Go.sliced,hc,e]
  ·have hx:xs≠[]:=by intro e;subst e;simp at hn
   rw [h3 hx]
   by_cases e0:l*sz=0
   ·simp [Addr.add,e0]
   ·simp [Addr.add,e0]
  ·rw [Zbf,ZG] at hr
   split at hr
   ·obtain ⟨q1,q2⟩:=h4 _ _ hr
    refine ⟨q1,fun j u hu=>?_⟩
    have:=q2 j u hu
    rw [show o+l*sz+i*sz+j=o+(l+i)*sz+j by rw [Nat.add_mul];omega]
    exact this
   ·simp at hr
end
end Go.SL
namespace Go.Proofs
open Go Go.SL
instance :Sl Tryz.prog:=⟨by kernel_rfl⟩
instance :Ty Tryz.prog 3 false 1:=⟨by kernel_rfl⟩
instance :iV Tryz.prog 3 (.int .i64):=⟨by kernel_rfl⟩
instance :lZ Tryz.prog 3 (.int .i64 0):=⟨by kernel_rfl⟩
instance :wE Tryz.prog 3 8:=⟨by kernel_rfl⟩
instance :Ty Tryz.prog 4 false 1:=⟨by kernel_rfl⟩
instance :iV Tryz.prog 4 (.bool):=⟨by kernel_rfl⟩
instance :lZ Tryz.prog 4 (.bool false):=⟨by kernel_rfl⟩
instance :wE Tryz.prog 4 1:=⟨by kernel_rfl⟩
instance :Ty Tryz.prog 9 false 1:=⟨by kernel_rfl⟩
instance :iV Tryz.prog 9 (.string):=⟨by kernel_rfl⟩
instance :lZ Tryz.prog 9 (.string ⟨#[]⟩):=⟨by kernel_rfl⟩
instance :wE Tryz.prog 9 16:=⟨by kernel_rfl⟩
instance :Ty Tryz.prog 22 false 1:=⟨by kernel_rfl⟩
instance :iV Tryz.prog 22 (.slice 118):=⟨by kernel_rfl⟩
instance :Ty Tryz.prog 23 false 1:=⟨by kernel_rfl⟩
instance :iV Tryz.prog 23 (.slice 88):=⟨by kernel_rfl⟩
instance :Ty Tryz.prog 24 false 1:=⟨by kernel_rfl⟩
instance :iV Tryz.prog 24 (.slice 122):=⟨by kernel_rfl⟩
instance :Ty Tryz.prog 25 false 1:=⟨by kernel_rfl⟩
instance :iV Tryz.prog 25 (.slice 180):=⟨by kernel_rfl⟩
instance :Ty Tryz.prog 27 true 6:=⟨by kernel_rfl⟩
instance :lZ Tryz.prog 27 (.agg #[.int .i64 0,.int .i64 0,.slice none 0 0,.slice none 0 0,.slice none 0 0,.slice none 0 0]):=⟨by kernel_rfl⟩
instance :CK Tryz.prog 27 [(0,1),(1,1),(2,1),(3,1),(4,1),(5,1)] [.int .i64 0,.int .i64 0,.slice none 0 0,.slice none 0 0,.slice none 0 0,.slice none 0 0]:=⟨by kernel_rfl⟩
instance :eu Tryz.prog 27 0 0:=⟨by kernel_rfl⟩
instance :eu Tryz.prog 27 1 1:=⟨by kernel_rfl⟩
instance :eu Tryz.prog 27 2 2:=⟨by kernel_rfl⟩
instance :eu Tryz.prog 27 3 3:=⟨by kernel_rfl⟩
instance :eu Tryz.prog 27 4 4:=⟨by kernel_rfl⟩
instance :eu Tryz.prog 27 5 5:=⟨by kernel_rfl⟩
instance :Ty Tryz.prog 29 true 3:=⟨by kernel_rfl⟩
instance :eu Tryz.prog 29 0 0:=⟨by kernel_rfl⟩
instance :eu Tryz.prog 29 1 1:=⟨by kernel_rfl⟩
instance :eu Tryz.prog 29 2 2:=⟨by kernel_rfl⟩
instance :Ty Tryz.prog 32 false 1:=⟨by kernel_rfl⟩
instance :iV Tryz.prog 32 (.slice 9):=⟨by kernel_rfl⟩
instance :lZ Tryz.prog 32 (.slice none 0 0):=⟨by kernel_rfl⟩
instance :wE Tryz.prog 32 24:=⟨by kernel_rfl⟩
instance :Ty Tryz.prog 33 false 1:=⟨by kernel_rfl⟩
instance :lZ Tryz.prog 33 (.int .i64 0):=⟨by kernel_rfl⟩
instance :Ty Tryz.prog 36 false 1:=⟨by kernel_rfl⟩
instance :iV Tryz.prog 36 (.slice 186):=⟨by kernel_rfl⟩
instance :Ty Tryz.prog 37 false 1:=⟨by kernel_rfl⟩
instance :iV Tryz.prog 37 (.slice 90):=⟨by kernel_rfl⟩
instance :Ty Tryz.prog 38 false 1:=⟨by kernel_rfl⟩
instance :iV Tryz.prog 38 (.slice 187):=⟨by kernel_rfl⟩
instance :Ty Tryz.prog 39 false 1:=⟨by kernel_rfl⟩
instance :iV Tryz.prog 39 (.slice 188):=⟨by kernel_rfl⟩
instance :Ty Tryz.prog 41 true 6:=⟨by kernel_rfl⟩
instance :lZ Tryz.prog 41 (.agg #[.int .i64 0,.int .i64 0,.slice none 0 0,.slice none 0 0,.slice none 0 0,.slice none 0 0]):=⟨by kernel_rfl⟩
instance :CK Tryz.prog 41 [(0,1),(1,1),(2,1),(3,1),(4,1),(5,1)] [.int .i64 0,.int .i64 0,.slice none 0 0,.slice none 0 0,.slice none 0 0,.slice none 0 0]:=⟨by kernel_rfl⟩
instance :eu Tryz.prog 41 0 0:=⟨by kernel_rfl⟩
instance :eu Tryz.prog 41 1 1:=⟨by kernel_rfl⟩
instance :eu Tryz.prog 41 2 2:=⟨by kernel_rfl⟩
instance :eu Tryz.prog 41 3 3:=⟨by kernel_rfl⟩
instance :eu Tryz.prog 41 4 4:=⟨by kernel_rfl⟩
instance :eu Tryz.prog 41 5 5:=⟨by kernel_rfl⟩
instance :Ty Tryz.prog 49 false 1:=⟨by kernel_rfl⟩
instance :iV Tryz.prog 49 (.slice 3):=⟨by kernel_rfl⟩
instance :lZ Tryz.prog 49 (.slice none 0 0):=⟨by kernel_rfl⟩
instance :iV Tryz.prog 66 (.slice 69):=⟨by kernel_rfl⟩
instance :Ty Tryz.prog 69 true 2:=⟨by kernel_rfl⟩
instance :lZ Tryz.prog 69 (.agg #[.string ⟨#[]⟩,.slice none 0 0]):=⟨by kernel_rfl⟩
instance :wE Tryz.prog 69 40:=⟨by kernel_rfl⟩
instance :CK Tryz.prog 69 [(0,1),(1,1)] [.string ⟨#[]⟩,.slice none 0 0]:=⟨by kernel_rfl⟩
instance :eu Tryz.prog 69 0 0:=⟨by kernel_rfl⟩
instance :eu Tryz.prog 69 1 1:=⟨by kernel_rfl⟩
instance :Ty Tryz.prog 72 false 1:=⟨by kernel_rfl⟩
instance :iV Tryz.prog 72 (.slice 78):=⟨by kernel_rfl⟩
instance :Ty Tryz.prog 78 true 2:=⟨by kernel_rfl⟩
instance :lZ Tryz.prog 78 (.agg #[.string ⟨#[]⟩,.slice none 0 0]):=⟨by kernel_rfl⟩
instance :wE Tryz.prog 78 40:=⟨by kernel_rfl⟩
instance :CK Tryz.prog 78 [(0,1),(1,1)] [.string ⟨#[]⟩,.slice none 0 0]:=⟨by kernel_rfl⟩
instance :eu Tryz.prog 78 0 0:=⟨by kernel_rfl⟩
instance :eu Tryz.prog 78 1 1:=⟨by kernel_rfl⟩
instance :Ty Tryz.prog 88 true 3:=⟨by kernel_rfl⟩
instance :lZ Tryz.prog 88 (.agg #[.string ⟨#[]⟩,.int .i64 0,.bool false]):=⟨by kernel_rfl⟩
instance :wE Tryz.prog 88 32:=⟨by kernel_rfl⟩
instance :eu Tryz.prog 88 0 0:=⟨by kernel_rfl⟩
instance :eu Tryz.prog 88 1 1:=⟨by kernel_rfl⟩
instance :eu Tryz.prog 88 2 2:=⟨by kernel_rfl⟩
instance :Ty Tryz.prog 90 true 3:=⟨by kernel_rfl⟩
instance :lZ Tryz.prog 90 (.agg #[.string ⟨#[]⟩,.int .i64 0,.bool false]):=⟨by kernel_rfl⟩
instance :wE Tryz.prog 90 32:=⟨by kernel_rfl⟩
instance :CK Tryz.prog 90 [(0,1),(1,1),(2,1)] [.string ⟨#[]⟩,.int .i64 0,.bool false]:=⟨by kernel_rfl⟩
instance :eu Tryz.prog 90 0 0:=⟨by kernel_rfl⟩
instance :eu Tryz.prog 90 1 1:=⟨by kernel_rfl⟩
instance :eu Tryz.prog 90 2 2:=⟨by kernel_rfl⟩
instance :iV Tryz.prog 96 (.slice 182):=⟨by kernel_rfl⟩
instance :Ty Tryz.prog 118 true 2:=⟨by kernel_rfl⟩
instance :lZ Tryz.prog 118 (.agg #[.string ⟨#[]⟩,.int .i64 0]):=⟨by kernel_rfl⟩
instance :wE Tryz.prog 118 24:=⟨by kernel_rfl⟩
instance :eu Tryz.prog 118 0 0:=⟨by kernel_rfl⟩
instance :eu Tryz.prog 118 1 1:=⟨by kernel_rfl⟩
instance :Ty Tryz.prog 122 true 3:=⟨by kernel_rfl⟩
instance :lZ Tryz.prog 122 (.agg #[.string ⟨#[]⟩,.int .i64 0,.int .i64 0]):=⟨by kernel_rfl⟩
instance :wE Tryz.prog 122 32:=⟨by kernel_rfl⟩
instance :eu Tryz.prog 122 0 0:=⟨by kernel_rfl⟩
instance :eu Tryz.prog 122 1 1:=⟨by kernel_rfl⟩
instance :eu Tryz.prog 122 2 2:=⟨by kernel_rfl⟩
instance :iV Tryz.prog 156 (.slice 32):=⟨by kernel_rfl⟩
instance :Ty Tryz.prog 180 true 3:=⟨by kernel_rfl⟩
instance :lZ Tryz.prog 180 (.agg #[.int .i64 0,.string ⟨#[]⟩,.string ⟨#[]⟩]):=⟨by kernel_rfl⟩
instance :wE Tryz.prog 180 40:=⟨by kernel_rfl⟩
instance :CK Tryz.prog 180 [(0,1),(1,1),(2,1)] [.int .i64 0,.string ⟨#[]⟩,.string ⟨#[]⟩]:=⟨by kernel_rfl⟩
instance :eu Tryz.prog 180 0 0:=⟨by kernel_rfl⟩
instance :eu Tryz.prog 180 1 1:=⟨by kernel_rfl⟩
instance :eu Tryz.prog 180 2 2:=⟨by kernel_rfl⟩
instance :Ty Tryz.prog 182 true 2:=⟨by kernel_rfl⟩
instance :lZ Tryz.prog 182 (.agg #[.int .i64 0,.slice none 0 0]):=⟨by kernel_rfl⟩
instance :CK Tryz.prog 182 [(0,1),(1,1)] [.int .i64 0,.slice none 0 0]:=⟨by kernel_rfl⟩
instance :eu Tryz.prog 182 0 0:=⟨by kernel_rfl⟩
instance :eu Tryz.prog 182 1 1:=⟨by kernel_rfl⟩
instance :Ty Tryz.prog 186 true 2:=⟨by kernel_rfl⟩
instance :lZ Tryz.prog 186 (.agg #[.string ⟨#[]⟩,.int .i64 0]):=⟨by kernel_rfl⟩
instance :wE Tryz.prog 186 24:=⟨by kernel_rfl⟩
instance :CK Tryz.prog 186 [(0,1),(1,1)] [.string ⟨#[]⟩,.int .i64 0]:=⟨by kernel_rfl⟩
instance :eu Tryz.prog 186 0 0:=⟨by kernel_rfl⟩
instance :eu Tryz.prog 186 1 1:=⟨by kernel_rfl⟩
instance :Ty Tryz.prog 187 true 3:=⟨by kernel_rfl⟩
instance :lZ Tryz.prog 187 (.agg #[.string ⟨#[]⟩,.int .i64 0,.int .i64 0]):=⟨by kernel_rfl⟩
instance :wE Tryz.prog 187 32:=⟨by kernel_rfl⟩
instance :CK Tryz.prog 187 [(0,1),(1,1),(2,1)] [.string ⟨#[]⟩,.int .i64 0,.int .i64 0]:=⟨by kernel_rfl⟩
instance :eu Tryz.prog 187 0 0:=⟨by kernel_rfl⟩
instance :eu Tryz.prog 187 1 1:=⟨by kernel_rfl⟩
instance :eu Tryz.prog 187 2 2:=⟨by kernel_rfl⟩
instance :Ty Tryz.prog 188 true 3:=⟨by kernel_rfl⟩
instance :lZ Tryz.prog 188 (.agg #[.int .i64 0,.string ⟨#[]⟩,.string ⟨#[]⟩]):=⟨by kernel_rfl⟩
instance :wE Tryz.prog 188 40:=⟨by kernel_rfl⟩
instance :CK Tryz.prog 188 [(0,1),(1,1),(2,1)] [.int .i64 0,.string ⟨#[]⟩,.string ⟨#[]⟩]:=⟨by kernel_rfl⟩
instance :eu Tryz.prog 188 0 0:=⟨by kernel_rfl⟩
instance :eu Tryz.prog 188 1 1:=⟨by kernel_rfl⟩
instance :eu Tryz.prog 188 2 2:=⟨by kernel_rfl⟩
instance :Ty Tryz.prog 199 false 1:=⟨by kernel_rfl⟩
instance :Ty Tryz.prog 220 false 1:=⟨by kernel_rfl⟩
instance :lZ Tryz.prog 220 (.nilFunc):=⟨by kernel_rfl⟩
instance :iV Tryz.prog 232 (.slice 4):=⟨by kernel_rfl⟩
instance :Ty Tryz.prog 244 true 2:=⟨by kernel_rfl⟩
instance :lZ Tryz.prog 244 (.agg #[.slice none 0 0,.int .i64 0]):=⟨by kernel_rfl⟩
instance :wE Tryz.prog 244 32:=⟨by kernel_rfl⟩
instance :CK Tryz.prog 244 [(0,1),(1,1)] [.slice none 0 0,.int .i64 0]:=⟨by kernel_rfl⟩
instance :eu Tryz.prog 244 0 0:=⟨by kernel_rfl⟩
instance :eu Tryz.prog 244 1 1:=⟨by kernel_rfl⟩
instance :Ty Tryz.prog 254 false 1:=⟨by kernel_rfl⟩
instance :iV Tryz.prog 254 (.map 9 257):=⟨by kernel_rfl⟩
instance :lZ Tryz.prog 254 (.map none):=⟨by kernel_rfl⟩
instance :Ty Tryz.prog 257 true 3:=⟨by kernel_rfl⟩
instance :lZ Tryz.prog 257 (.agg #[.int .i64 0,.int .i64 0,.int .i64 0]):=⟨by kernel_rfl⟩
instance :CK Tryz.prog 257 [(0,1),(1,1),(2,1)] [.int .i64 0,.int .i64 0,.int .i64 0]:=⟨by kernel_rfl⟩
instance :eu Tryz.prog 257 0 0:=⟨by kernel_rfl⟩
instance :FTy Tryz.prog 257 0 0 3:=⟨by kernel_rfl⟩
instance :eu Tryz.prog 257 1 1:=⟨by kernel_rfl⟩
instance :eu Tryz.prog 257 2 2:=⟨by kernel_rfl⟩
instance :Ty Tryz.prog 264 true 2:=⟨by kernel_rfl⟩
instance :CK Tryz.prog 264 [(0,1),(1,1)] [.string ⟨#[]⟩,.nilFunc]:=⟨by kernel_rfl⟩
instance :eu Tryz.prog 264 0 0:=⟨by kernel_rfl⟩
instance :Ty Tryz.prog 265 true 10:=⟨by kernel_rfl⟩
instance :iV Tryz.prog 265 (.array 5 264):=⟨by kernel_rfl⟩
instance :lZ Tryz.prog 265 (.agg #[.string ⟨#[]⟩,.nilFunc,.string ⟨#[]⟩,.nilFunc,.string ⟨#[]⟩,.nilFunc,.string ⟨#[]⟩,.nilFunc,.string ⟨#[]⟩,.nilFunc]):=⟨by kernel_rfl⟩
instance :CK Tryz.prog 265 [(0,2),(2,2),(4,2),(6,2),(8,2)] [.string ⟨#[]⟩,.nilFunc,.string ⟨#[]⟩,.nilFunc,.string ⟨#[]⟩,.nilFunc,.string ⟨#[]⟩,.nilFunc,.string ⟨#[]⟩,.nilFunc]:=⟨by kernel_rfl⟩
instance :iV Tryz.prog 287 (.slice 33):=⟨by kernel_rfl⟩
instance :Ty Tryz.prog 299 true 2:=⟨by kernel_rfl⟩
instance :iV Tryz.prog 299 (.array 2 3):=⟨by kernel_rfl⟩
instance :lZ Tryz.prog 299 (.agg #[.int .i64 0,.int .i64 0]):=⟨by kernel_rfl⟩
instance :CK Tryz.prog 299 [(0,1),(1,1)] [.int .i64 0,.int .i64 0]:=⟨by kernel_rfl⟩
instance :Ty Tryz.prog 329 false 1:=⟨by kernel_rfl⟩
instance :iV Tryz.prog 329 (.slice 244):=⟨by kernel_rfl⟩
instance :lZ Tryz.prog 329 (.slice none 0 0):=⟨by kernel_rfl⟩
instance :AG Tryz.prog 88 [9,3,4]:=⟨by kernel_rfl,by kernel_rfl,by kernel_rfl⟩
instance :AG Tryz.prog 118 [9,3]:=⟨by kernel_rfl,by kernel_rfl,by kernel_rfl⟩
instance :AG Tryz.prog 122 [9,3,3]:=⟨by kernel_rfl,by kernel_rfl,by kernel_rfl⟩
instance :AG Tryz.prog 180 [3,9,9]:=⟨by kernel_rfl,by kernel_rfl,by kernel_rfl⟩
instance :AG Tryz.prog 188 [3,9,9]:=⟨by kernel_rfl,by kernel_rfl,by kernel_rfl⟩
instance :AG Tryz.prog 299 [3,3]:=⟨by kernel_rfl,by kernel_rfl,by kernel_rfl⟩
instance :bR Tryz.prog 17:=⟨by kernel_rfl⟩
instance :bR Tryz.prog 18:=⟨by kernel_rfl⟩
instance :bR Tryz.prog 19:=⟨by kernel_rfl⟩
instance :bR Tryz.prog 20:=⟨by kernel_rfl⟩
instance :bR Tryz.prog 21:=⟨by kernel_rfl⟩
instance :bR Tryz.prog 22:=⟨by kernel_rfl⟩
instance :bR Tryz.prog 23:=⟨by kernel_rfl⟩
instance :bR Tryz.prog 24:=⟨by kernel_rfl⟩
instance :bR Tryz.prog 25:=⟨by kernel_rfl⟩
instance :bR Tryz.prog 26:=⟨by kernel_rfl⟩
instance :bR Tryz.prog 27:=⟨by kernel_rfl⟩
instance :bR Tryz.prog 28:=⟨by kernel_rfl⟩
instance :bR Tryz.prog 29:=⟨by kernel_rfl⟩
instance :bR Tryz.prog 30:=⟨by kernel_rfl⟩
instance :bR Tryz.prog 31:=⟨by kernel_rfl⟩
instance :bR Tryz.prog 32:=⟨by kernel_rfl⟩
instance :bR Tryz.prog 33:=⟨by kernel_rfl⟩
instance :bR Tryz.prog 34:=⟨by kernel_rfl⟩
instance :bR Tryz.prog 35:=⟨by kernel_rfl⟩
instance :bR Tryz.prog 36:=⟨by kernel_rfl⟩
instance :bR Tryz.prog 37:=⟨by kernel_rfl⟩
instance :bR Tryz.prog 38:=⟨by kernel_rfl⟩
instance :bR Tryz.prog 39:=⟨by kernel_rfl⟩
instance :bR Tryz.prog 40:=⟨by kernel_rfl⟩
instance :bR Tryz.prog 41:=⟨by kernel_rfl⟩
instance :bR Tryz.prog 42:=⟨by kernel_rfl⟩
instance :bR Tryz.prog 43:=⟨by kernel_rfl⟩
instance :bR Tryz.prog 44:=⟨by kernel_rfl⟩
instance :bR Tryz.prog 45:=⟨by kernel_rfl⟩
instance :bR Tryz.prog 46:=⟨by kernel_rfl⟩
instance :bR Tryz.prog 47:=⟨by kernel_rfl⟩
instance :bR Tryz.prog 48:=⟨by kernel_rfl⟩
instance :bR Tryz.prog 49:=⟨by kernel_rfl⟩
instance :bR Tryz.prog 50:=⟨by kernel_rfl⟩
instance :bR Tryz.prog 51:=⟨by kernel_rfl⟩
instance :bR Tryz.prog 52:=⟨by kernel_rfl⟩
instance :bR Tryz.prog 53:=⟨by kernel_rfl⟩
instance :bR Tryz.prog 54:=⟨by kernel_rfl⟩
instance :bR Tryz.prog 55:=⟨by kernel_rfl⟩
instance :bR Tryz.prog 56:=⟨by kernel_rfl⟩
instance :bR Tryz.prog 57:=⟨by kernel_rfl⟩
instance :bR Tryz.prog 58:=⟨by kernel_rfl⟩
instance :bR Tryz.prog 59:=⟨by kernel_rfl⟩
instance :bR Tryz.prog 60:=⟨by kernel_rfl⟩
instance :bR Tryz.prog 64:=⟨by kernel_rfl⟩
instance :bR Tryz.prog 67:=⟨by kernel_rfl⟩
instance :bR Tryz.prog 69:=⟨by kernel_rfl⟩
instance :bR Tryz.prog 70:=⟨by kernel_rfl⟩
instance :bR Tryz.prog 71:=⟨by kernel_rfl⟩
instance :bR Tryz.prog 72:=⟨by kernel_rfl⟩
instance :bR Tryz.prog 73:=⟨by kernel_rfl⟩
instance :bR Tryz.prog 74:=⟨by kernel_rfl⟩
instance :bR Tryz.prog 75:=⟨by kernel_rfl⟩
instance :bR Tryz.prog 76:=⟨by kernel_rfl⟩
instance :bR Tryz.prog 77:=⟨by kernel_rfl⟩
instance :bR Tryz.prog 78:=⟨by kernel_rfl⟩
instance :bR Tryz.prog 84:=⟨by kernel_rfl⟩
instance :bR Tryz.prog 85:=⟨by kernel_rfl⟩
instance :bR Tryz.prog 105:=⟨by kernel_rfl⟩
instance :bR Tryz.prog 106:=⟨by kernel_rfl⟩
instance :bR Tryz.prog 107:=⟨by kernel_rfl⟩
instance :bR Tryz.prog 108:=⟨by kernel_rfl⟩
instance :bR Tryz.prog 109:=⟨by kernel_rfl⟩
instance :bR Tryz.prog 110:=⟨by kernel_rfl⟩
instance :bR Tryz.prog 111:=⟨by kernel_rfl⟩
instance :bR Tryz.prog 112:=⟨by kernel_rfl⟩
instance :bR Tryz.prog 113:=⟨by kernel_rfl⟩
instance :bR Tryz.prog 114:=⟨by kernel_rfl⟩
instance :bR Tryz.prog 115:=⟨by kernel_rfl⟩
instance :bR Tryz.prog 116:=⟨by kernel_rfl⟩
instance :bR Tryz.prog 117:=⟨by kernel_rfl⟩
instance :bR Tryz.prog 118:=⟨by kernel_rfl⟩
instance :bR Tryz.prog 119:=⟨by kernel_rfl⟩
instance :bR Tryz.prog 120:=⟨by kernel_rfl⟩
instance :bR Tryz.prog 121:=⟨by kernel_rfl⟩
instance :bR Tryz.prog 122:=⟨by kernel_rfl⟩
instance :bR Tryz.prog 123:=⟨by kernel_rfl⟩
instance :bR Tryz.prog 124:=⟨by kernel_rfl⟩
instance :bR Tryz.prog 125:=⟨by kernel_rfl⟩
instance :bR Tryz.prog 126:=⟨by kernel_rfl⟩
instance :bR Tryz.prog 127:=⟨by kernel_rfl⟩
instance :bR Tryz.prog 128:=⟨by kernel_rfl⟩
instance :bR Tryz.prog 129:=⟨by kernel_rfl⟩
instance :bR Tryz.prog 130:=⟨by kernel_rfl⟩
instance :bR Tryz.prog 131:=⟨by kernel_rfl⟩
instance :bR Tryz.prog 132:=⟨by kernel_rfl⟩
instance :bR Tryz.prog 133:=⟨by kernel_rfl⟩
instance :bR Tryz.prog 134:=⟨by kernel_rfl⟩
instance :bR Tryz.prog 135:=⟨by kernel_rfl⟩
instance :bR Tryz.prog 136:=⟨by kernel_rfl⟩
instance :bR Tryz.prog 137:=⟨by kernel_rfl⟩
instance :bR Tryz.prog 138:=⟨by kernel_rfl⟩
instance :bR Tryz.prog 139:=⟨by kernel_rfl⟩
instance :bR Tryz.prog 140:=⟨by kernel_rfl⟩
instance :bR Tryz.prog 141:=⟨by kernel_rfl⟩
instance :bR Tryz.prog 142:=⟨by kernel_rfl⟩
instance :bR Tryz.prog 143:=⟨by kernel_rfl⟩
instance :bR Tryz.prog 144:=⟨by kernel_rfl⟩
instance :bR Tryz.prog 145:=⟨by kernel_rfl⟩
instance :bR Tryz.prog 146:=⟨by kernel_rfl⟩
instance :bR Tryz.prog 147:=⟨by kernel_rfl⟩
instance :bR Tryz.prog 148:=⟨by kernel_rfl⟩
instance :bR Tryz.prog 149:=⟨by kernel_rfl⟩
instance :bR Tryz.prog 150:=⟨by kernel_rfl⟩
instance :bR Tryz.prog 151:=⟨by kernel_rfl⟩
instance :bR Tryz.prog 152:=⟨by kernel_rfl⟩
instance :bR Tryz.prog 153:=⟨by kernel_rfl⟩
instance :bR Tryz.prog 154:=⟨by kernel_rfl⟩
instance :bR Tryz.prog 155:=⟨by kernel_rfl⟩
instance :bR Tryz.prog 156:=⟨by kernel_rfl⟩
instance :bR Tryz.prog 157:=⟨by kernel_rfl⟩
instance :bR Tryz.prog 158:=⟨by kernel_rfl⟩
instance :bR Tryz.prog 159:=⟨by kernel_rfl⟩
instance :bR Tryz.prog 160:=⟨by kernel_rfl⟩
instance :bR Tryz.prog 161:=⟨by kernel_rfl⟩
instance :bR Tryz.prog 162:=⟨by kernel_rfl⟩
instance :bR Tryz.prog 163:=⟨by kernel_rfl⟩
instance :bR Tryz.prog 164:=⟨by kernel_rfl⟩
instance :bR Tryz.prog 165:=⟨by kernel_rfl⟩
instance :bR Tryz.prog 166:=⟨by kernel_rfl⟩
instance :bR Tryz.prog 167:=⟨by kernel_rfl⟩
instance :bR Tryz.prog 168:=⟨by kernel_rfl⟩
instance :bR Tryz.prog 169:=⟨by kernel_rfl⟩
instance :bR Tryz.prog 170:=⟨by kernel_rfl⟩
instance :bR Tryz.prog 171:=⟨by kernel_rfl⟩
instance :bR Tryz.prog 172:=⟨by kernel_rfl⟩
instance :bR Tryz.prog 173:=⟨by kernel_rfl⟩
instance :bR Tryz.prog 174:=⟨by kernel_rfl⟩
instance :bR Tryz.prog 175:=⟨by kernel_rfl⟩
instance :bR Tryz.prog 176:=⟨by kernel_rfl⟩
instance :bR Tryz.prog 177:=⟨by kernel_rfl⟩
instance :bR Tryz.prog 178:=⟨by kernel_rfl⟩
instance :bR Tryz.prog 179:=⟨by kernel_rfl⟩
instance :bR Tryz.prog 180:=⟨by kernel_rfl⟩
instance :bR Tryz.prog 181:=⟨by kernel_rfl⟩
instance :bR Tryz.prog 182:=⟨by kernel_rfl⟩
instance :bR Tryz.prog 183:=⟨by kernel_rfl⟩
instance :bR Tryz.prog 184:=⟨by kernel_rfl⟩
instance :bR Tryz.prog 186:=⟨by kernel_rfl⟩
instance :bR Tryz.prog 187:=⟨by kernel_rfl⟩
instance :bR Tryz.prog 189:=⟨by kernel_rfl⟩
instance :bR Tryz.prog 191:=⟨by kernel_rfl⟩
instance :bR Tryz.prog 192:=⟨by kernel_rfl⟩
instance :bR Tryz.prog 193:=⟨by kernel_rfl⟩
instance :bR Tryz.prog 221:=⟨by kernel_rfl⟩
instance :bR Tryz.prog 222:=⟨by kernel_rfl⟩
instance :bR Tryz.prog 223:=⟨by kernel_rfl⟩
instance :bR Tryz.prog 224:=⟨by kernel_rfl⟩
instance :bR Tryz.prog 225:=⟨by kernel_rfl⟩
instance :bR Tryz.prog 226:=⟨by kernel_rfl⟩
instance :bR Tryz.prog 227:=⟨by kernel_rfl⟩
instance :bR Tryz.prog 228:=⟨by kernel_rfl⟩
instance :bR Tryz.prog 229:=⟨by kernel_rfl⟩
instance :bR Tryz.prog 230:=⟨by kernel_rfl⟩
instance :bR Tryz.prog 231:=⟨by kernel_rfl⟩
instance :bR Tryz.prog 232:=⟨by kernel_rfl⟩
instance :bR Tryz.prog 233:=⟨by kernel_rfl⟩
instance :bR Tryz.prog 234:=⟨by kernel_rfl⟩
instance :bR Tryz.prog 235:=⟨by kernel_rfl⟩
instance :bR Tryz.prog 236:=⟨by kernel_rfl⟩
instance :bR Tryz.prog 237:=⟨by kernel_rfl⟩
instance :bR Tryz.prog 238:=⟨by kernel_rfl⟩
instance :bR Tryz.prog 239:=⟨by kernel_rfl⟩
instance :bR Tryz.prog 240:=⟨by kernel_rfl⟩
instance :bR Tryz.prog 241:=⟨by kernel_rfl⟩
instance :bR Tryz.prog 242:=⟨by kernel_rfl⟩
instance :bR Tryz.prog 243:=⟨by kernel_rfl⟩
instance :bR Tryz.prog 246:=⟨by kernel_rfl⟩
instance :bR Tryz.prog 247:=⟨by kernel_rfl⟩
instance :bR Tryz.prog 248:=⟨by kernel_rfl⟩
instance :bR Tryz.prog 249:=⟨by kernel_rfl⟩
instance :bR Tryz.prog 250:=⟨by kernel_rfl⟩
instance :bR Tryz.prog 251:=⟨by kernel_rfl⟩
instance :bR Tryz.prog 252:=⟨by kernel_rfl⟩
instance :bR Tryz.prog 253:=⟨by kernel_rfl⟩
instance :bR Tryz.prog 254:=⟨by kernel_rfl⟩
instance :bR Tryz.prog 255:=⟨by kernel_rfl⟩
instance :bR Tryz.prog 256:=⟨by kernel_rfl⟩
instance :bR Tryz.prog 257:=⟨by kernel_rfl⟩
instance :bR Tryz.prog 258:=⟨by kernel_rfl⟩
instance :bR Tryz.prog 259:=⟨by kernel_rfl⟩
instance :bR Tryz.prog 260:=⟨by kernel_rfl⟩
instance :bR Tryz.prog 262:=⟨by kernel_rfl⟩
instance :bR Tryz.prog 263:=⟨by kernel_rfl⟩
instance :bR Tryz.prog 264:=⟨by kernel_rfl⟩
instance :bR Tryz.prog 265:=⟨by kernel_rfl⟩
instance :bR Tryz.prog 266:=⟨by kernel_rfl⟩
instance :bR Tryz.prog 267:=⟨by kernel_rfl⟩
instance :bR Tryz.prog 268:=⟨by kernel_rfl⟩
instance :bR Tryz.prog 270:=⟨by kernel_rfl⟩
instance :bR Tryz.prog 278:=⟨by kernel_rfl⟩
instance :bR Tryz.prog 279:=⟨by kernel_rfl⟩
instance :bR Tryz.prog 297:=⟨by kernel_rfl⟩
instance :bR Tryz.prog 298:=⟨by kernel_rfl⟩
instance :bR Tryz.prog 299:=⟨by kernel_rfl⟩
instance :bR Tryz.prog 300:=⟨by kernel_rfl⟩
instance :bR Tryz.prog 301:=⟨by kernel_rfl⟩
instance :bR Tryz.prog 302:=⟨by kernel_rfl⟩
instance :bR Tryz.prog 314:=⟨by kernel_rfl⟩
instance :bR Tryz.prog 315:=⟨by kernel_rfl⟩
instance :bR Tryz.prog 316:=⟨by kernel_rfl⟩
instance :bR Tryz.prog 317:=⟨by kernel_rfl⟩
instance :bR Tryz.prog 319:=⟨by kernel_rfl⟩
instance :bR Tryz.prog 323:=⟨by kernel_rfl⟩
instance :bR Tryz.prog 324:=⟨by kernel_rfl⟩
instance :bR Tryz.prog 342:=⟨by kernel_rfl⟩
end Go.Proofs
namespace Go.SL
open Go
theorem aJ.over {md fp:List Nat} {a b c:World} (h:aJ md a b) (hf:∀ x∈fp,x∈md∨a.heap.size≤x) (k:aJ fp b c):aJ md a c:=
 ⟨k.os.trans h.os,k.tape.trans h.tape,k.output.trans h.output,ZX h.dr k.dr,ZX h.size k.size,fun i hi hm=>by
  rw [← h.block i hi hm]
  exact k.block i (ZaI hi h.size) (fun hx=>by
   rcases hf i hx with h1 | h1
   ·exact hm h1
   ·omega)⟩
def Out (md:List Nat) (v:Value) (xs:List (List Value)):Prop:=xs≠[]→∀ b,v.ownBlock=some b→b ∉ md
theorem Out.nil (v:Value) (xs:List (List Value)):Out [] v xs:=fun _ _ _ h=>by cases h
theorem Rd.jB {md:List Nat} {w w':World} {v:Value} {sz:Nat} {xs:List (List Value)} (h:Rd w v sz xs) (hn:Out md v xs) (hk:aJ md w w'):Rd w' v sz xs:=by
 obtain ⟨a,cap,b,o,rfl,h2,GJ,h3,h4⟩:=h
 refine ⟨a,cap,b,o,rfl,h2,GJ,h3,fun i r hr=>⟨(h4 i r hr).1,fun j u hu=>?_⟩⟩
 have:=(h4 i r hr).2 j u hu
 have hb:=World.block_lt_of_cell? w _ this
 have hne:xs≠[]:=by rintro rfl;simp at hr
 rw [← this]
 simp only [World.cell?]
 rw [hk.block b hb (hn hne b (by rw [h3 hne];rfl))]
theorem Rd.out {md fp:List Nat} {w0:World} {v:Value} {sz:Nat} {xs:List (List Value)} (h:Rd w0 v sz xs) (hsz:0<sz) (hn:Out md v xs) (hF:∀ b∈fp,b∈md∨w0.heap.size≤b):Out fp v xs:=fun hne b hb NC=>by
 obtain ⟨a,cap,b',o,rfl,h2,GJ,h3,h4⟩:=h
 have ha:=h3 hne
 subst ha
 have:b'=b:=by simpa [Value.ownBlock] using hb
 subst this
 obtain ⟨r,rs,rfl⟩:=List.exists_cons_of_ne_nil hne
 obtain ⟨hl,hc⟩:=h4 0 r rfl
 obtain ⟨u,us,rfl⟩:=List.exists_cons_of_ne_nil (l:=r) (by rintro rfl;simp at hl;omega)
 have aM:=World.block_lt_of_cell? w0 _ (hc 0 u rfl)
 rcases hF b' NC with h | h
 ·exact hn hne b' hb h
 ·exact absurd aM (by simp;omega)
theorem ew.CB {c:Cx} {hs:List bd} {b o:Nat} {vs:List Value} (h:∀ (j:Nat) (u:Value),vs[j]? = some u→c.w0.cell? ⟨b,o+j,none⟩=some u) (Gz:b ∉ c.md):ew c hs b o vs:=
 ew.si fun j v hv=>At.CB (h j v hv) Gz
def AA (P:Program) (l:Nat) (args:List Value) (w0:World) (md:List Nat) (pre:bd) (post:Bool→bd):Prop:=
 ∀ W fp, aJ md w0 W → (∀ b ∈ fp, b ∈ md ∨ w0.heap.size ≤ b) → fp.Nodup → pre.sat (hp W) fp → ∃ f tmps El body, (Instr.yield l args.toArray).run P W = .ok (.round l f tmps El body) W ∧
  RoundIn (FR none) 0 P l f tmps El body W (oT fp W post)
def Iter (P:Program) (f:FuncId) (first cap:List Value) (own:List bd) (items:List (List Value)) (w0:World) (md:List Nat) (w:World):Prop:=
 ∀ (l : Nat) (fp : List Nat) (J : Nat → bd) (E : bd), aJ md w0 w → (∀ b ∈ fp, b ∈ md ∨ w0.heap.size ≤ b) → fp.Nodup → ct (hp w) (J 0 :: own) fp →
  (∀ k vs,items[k]? = some vs→AA P l vs w0 md (J k) (fun b=>bif b then J (k+1) else E)) →
  bu P f (first++[.func (.yield l) #[] #[]]++cap) w fp (fun _:Bool=>True) (fun _=>.tuple #[]) (fun b=>(bif b then J items.length else E)::own)
section
variable {P:Program} {r:Option Nat} {c:Cx} {D:List Nat} {sl:aH} {hs hs':List bd} {Q:Exit→Act→World→Prop} {ι κ:Type}
variable {ops:Array Oper} {d:Nat} {ty:TypeId} {pos:String} {af:Array Edge} {rest:List Oper}
theorem xG {x:Operand} {xs:List Operand} {ts:Array TypeId} {l:Nat} {w0:World} {md:List Nat} {vs:List Value} {pre:bd} {post:Bool→bd} (hB:aJ md w0 c.w0) (hF:∀ b∈c.md,b∈md∨w0.heap.size≤b) (hy:AA P l vs w0 md pre post)
  (hx:Is sl x (.func (.yield l) #[] #[])) (ha:G0 sl xs vs) (hd:Nat.blt d c.nt=true) (ht:Take hs pre hs')
  (k:∀ b,Tr c D ((d,.bool b)::sl) (post b::hs') (WL P r ops Q rest)):Tr c D sl hs (WL P r ops Q (⟨some d,.call ⟨.value x,xs.toArray,ts⟩,ty,pos,af,none⟩::rest)):=fun a w bh=>by
 have hm:=bh.mem.take (ht.append _)
 obtain ⟨kk,fp,hn,⟨f1,f2,rfl,h1,h2⟩,hb⟩:=hm
 obtain ⟨f,tmps,El,body,gF,QT⟩:=hy w f1 (hB.over hF kk) (fun b dz=>by
  rcases hb b (ZE _ dz) with h | h
  ·exact .inr (ZX hB.size h)
  ·exact hF b h) (ZH.1 hn).1 h1
 refine mr rfl ⟨dN _ _ _ _ _,?_⟩
 rw [Oper.semAt_eq _ _ _ (by simp)]
 have:(execOp a.eval ⟨some d,.call ⟨.value x,xs.toArray,ts⟩,ty,pos,af,none⟩).run P w=.ok (.round l f tmps El body) w:=by
  simp only [execOp,resolve,hx a bh.c5,Deferred.ofValue,Sem.run_bind,Sem.run_pure,Result.andThen_ok,invoke,List.map_toArray,ha.map bh.c5]
  simpa using gF
 rw [this]
 refine ⟨by simp [FR,Fence.wide],(Ga QT).mono fun e w' ⟨b,he,hk,lH,uo,hs1,yC⟩=>?_⟩
 subst he
 refine k b _ _ ((bh.put (by simpa [Z2] using hd) (.bool b)).heap ?_)
 obtain ⟨n1,n2,n12⟩:=ZH.1 hn
 have aM:∀ b∈f2,b<w.heap.size:=fun b dz=>let ⟨o,ho⟩:=h2.own b dz;j8 ho
 refine ⟨?_,lH++f2,?_,⟨lH,f2,rfl,hs1,h2.loc fun b dz=>?_⟩,?_⟩
 ·refine ⟨hk.os.trans kk.os,hk.tape.trans kk.tape,hk.output.trans kk.output,ZX kk.dr hk.dr,ZX kk.size hk.size,fun b dz hm=>?_⟩
  rw [← kk.block b dz hm]
  refine hk.block b (ZaI dz kk.size) (fun hf=>?_)
  rcases hb b (ZE _ hf) with h | h
  ·omega
  ·exact hm h
 ·refine ZH.2 ⟨uo,n2,fun x hx y hy e=>?_⟩
  subst e
  rcases yC x hx with h | h
  ·exact n12 x h x hy rfl
  ·have:=aM x hy;omega
 ·exact hk.block b (aM b dz) (fun hf=>n12 b hf b dz rfl)
 ·intro b dz
  rcases Zx.1 dz with h | h
  ·rcases yC b h with h | h
   ·exact hb b (ZE _ h)
   ·exact .inl (ZX kk.size h)
  ·exact hb b (ZT _ h)
theorem CU {l:Nat} {rc:Loop} {nt:Nat} {vs:List Value} {w0:World} {md:List Nat} {Φ:ι→Prop} {A:ι→List bd} {post:Bool→bd} {Wb:aH} (vv:bU Wb ⟨rc.tmps,[]⟩) (hn:rc.tmps.size=nt) (hlen:vs.length=rc.params.size) (hps:∀ t∈rc.params.toList,t<nt)
  (h:∀ x W fp,aJ md w0 W→(∀ b∈fp,b∈md∨w0.heap.size≤b)→Φ x→Tr ⟨W,fp,nt⟩ [] (mh (rc.params.toList.zip vs) Wb) (bH l (fR rc .ready none)::A x) (WP P (some l) rc.assign (Exit.then (Er P l rc.body (oT fp W post)) (fun _ _ _=>False)))) :
  AA P l vs w0 md (NT Φ fun x=>bH l (fR rc .ready none)::A x) post:=by
 rintro W fp hB hF lj ⟨x,hx,iz⟩
 have gJ:Mem ⟨W,fp,nt⟩ (bH l (fR rc .ready none)::A x) W:=⟨.refl _ _,fp,lj,iz,fun b hb=>.inr hb⟩
 have hb:W.heap[l]? = some (fR rc .ready none):=gJ.bH .here
 have hy:=run_yield (P:=P) (w:=W) (l:=l) (r:={ rc with state:=.ready,pending:=none }) (args:=vs.toArray) hb (by simpa using hlen)
 refine ⟨_,_,_,_,hy,?_⟩
 refine roundIn_of_wpIn trivial ?_
 obtain ⟨g1,g2⟩:=yi (rc.params.toList.zip vs) Wb rc.tmps vv hn (fun p hp=>hps p.1 (by
  obtain ⟨t,v⟩:=p
  exact (List.of_mem_zip hp).1))
 have Ur:((rc.params.zip vs.toArray).foldl (fun tmps (x:Nat×Value)=>tmps.setIfInBounds x.1 x.2) rc.tmps)=(rc.params.toList.zip vs).foldl (fun (t:Array Value) p=>t.setIfInBounds p.1 p.2) rc.tmps:=by
  rw [← Array.foldl_toList]
  simp
 have:=h x W fp hB hF hx ⟨(rc.params.toList.zip vs).foldl (fun (t:Array Value) p=>t.setIfInBounds p.1 p.2) rc.tmps,[]⟩ W ⟨by simpa [mE] using gJ,g1,g2,rfl⟩
 rw [← Ur] at this
 exact this
def py (l:Nat) (rc:Loop) (Φ:Nat→ι→Prop) (A:ι→List bd) (Ψ:κ→Prop) (B:κ→List bd) (pd:κ→Code) (k:Nat) (b:Bool):bd:=
 bif b then NT (Φ k) (fun x=>bH l (fR rc .ready none)::A x) else NT Ψ (fun y=>bH l (fR rc .done (some (pd y)))::B y)
theorem jn {g:Operand} {ps:List Tmp} {El body:Code} {f:FuncId} {first cap:List Value} [bR P f] (hg:Is sl g (.func (.func f) first.toArray cap.toArray))
  (own:List bd) (items:List (List Value)) (hit:∀ w,Mem c hs w→Iter P f first cap own items c.w0 c.md w)
  (Φ:Nat→ι→Prop) (A:ι→List bd) (Ψ:κ→Prop) (B:κ→List bd) (pd:κ→Code) (x0:ι) {rst:List bd} (h0:Φ 0 x0) (ht:bD hs (A x0++own) rst)
  (hlen:∀ vs∈items,vs.length=ps.length) (hps:∀ t∈ps,t<c.nt)
  (round:∀ l rc W fp k x vs,rc.tmps.size=c.nt→items[k]? = some vs→Φ k x→aJ c.md c.w0 W→(∀ b∈fp,b∈c.md∨c.w0.heap.size≤b) →
   Tr ⟨W,fp,c.nt⟩ [] (mh (ps.zip vs) sl) (bH l (fR rc .ready none)::A x) (WP P (some l) El (Exit.then (Er P l body (oT fp W (py l rc Φ A Ψ B pd (k+1)))) (fun _ _ _=>False))))
  (kn:∀ x D,Φ items.length x→Tr c D sl (A x++own++rst) (Q .normal))
  (kj:∀ y D,Ψ y→Tr c D sl (B y++own++rst) (WP P none (pd y) Q)) :
  Tr c D sl hs (WP P none (.rangeFunc g ps.toArray El body) Q):=by
 refine y8 (ι:=ι ⊕ κ) hg (As:=fun l rc=>bH l (fR rc .ready none)::(A x0++own)) (rest:=rst)
  (Φ:=fun l rc x=>match x with | .inl x=>Φ items.length x | .inr y=>Ψ y) (own:=fun l rc x=>match x with | .inl x=>A x++own | .inr y=>B y++own)
  (st:=fun x=>match x with | .inl _=>.ready | .inr _=>.done) (pd:=fun x=>match x with | .inl _=>none | .inr y=>some (pd y)) ?_ ?_ ?_ ?_ ?_
 ·exact fun l rc=>bD.cons .here ht
 ·rintro (x | y) <;> simp
 ·intro l rc QY ha VV vv hsz w fp hm hn hs1 GB
  have XT:∀ b∈fp,b∈c.md∨c.w0.heap.size≤b:=fun b hb=>(GB b hb).symm
  have hs2:ct (hp w) (NT (Φ 0) (fun x=>bH l (fR rc .ready none)::A x)::own) fp:=by
   rw [← Zb] at hs1
   obtain ⟨f1,f2,rfl,h1,h2⟩:=ct.append_iff.1 hs1
   exact ⟨f1,f2,rfl,⟨x0,h0,h1⟩,h2⟩
  refine (hit w hm.vN l fp (fun k=>NT (Φ k) (fun x=>bH l (fR rc .ready none)::A x)) (NT Ψ (fun y=>bH l (fR rc .done (some (pd y)))::B y)) hm.keeps XT hn hs2 ?_).mono ?_
  ·intro k vs hk
   refine CU (post:=py l rc Φ A Ψ B pd (k+1)) vv hsz (by rw [QY];simpa using hlen vs (ZV hk)) (by rw [QY];simpa using hps) ?_
   intro x W US hB hF hx
   have:=round l rc W US k x vs hsz hk hx hB hF
   rw [ha,VV,QY]
   simpa using this
  ·rintro e w' ⟨b,he,_,hk,lH,uo,hs',yC⟩
   obtain ⟨f1,f2,rfl,h1,h2⟩:=hs'
   cases b with
   | true =>
    obtain ⟨x,hx,h1⟩:=h1
    exact ⟨.inl x,he,hx,hk,f1++f2,uo,by
     show ct _ (bH l (fR rc .ready none)::(A x++own)) _
     rw [← Zb]
     exact ct.append_iff.2 ⟨f1,f2,rfl,h1,h2⟩,yC⟩
   | false =>
    obtain ⟨y,hy,h1⟩:=h1
    exact ⟨.inr y,he,hy,hk,f1++f2,uo,by
     show ct _ (bH l (fR rc .done (some (pd y)))::(B y++own)) _
     rw [← Zb]
     exact ct.append_iff.2 ⟨f1,f2,rfl,h1,h2⟩,yC⟩
 ·rintro l rc (x | y) b hx QZ
  ·exact kn x (b::D) hx
  ·simp at QZ
 ·rintro l rc (x | y) b j hx QZ
  ·simp at QZ
  ·simp only [Option.some.injEq] at QZ;subst QZ
   exact kj y (b::D) hx
def yR (c:Cx) (Φ:ι→Prop) (sI:ι→aH) (hI:ι→List bd) (μ:ι→Nat) (i:ι):Act→World→Prop:=fun a w=>∃ D j,Φ j∧μ j<μ i∧St c D (sI j) (hI j) a w
def wi (c:Cx) (Φ:ι→Prop) (sI:ι→aH) (hI:ι→List bd):Act→World→Prop:=fun a w=>∃ D i,Φ i∧St c D (sI i) (hI i) a w
theorem EA {x:Code} (Φ:ι→Prop) (sI:ι→aH) (hI:ι→List bd) (μ:ι→Nat)
  (h0:Tr c D sl hs (wi c Φ sI hI))
  (round:∀ i,Φ i→∀ D,Tr c D (sI i) (hI i) (WP P r x (Exit.then (yR c Φ sI hI μ i) Q))) :
  Tr c D sl hs (WP P r (.loop x) Q):=fun a w bh=>by
 let fits:Act→World→Nat→Prop:=fun a w n=>∃ D i,Φ i∧μ i=n∧St c D (sI i) (hI i) a w
 have least:∀ a w,(∃ n,fits a w n)→∃ n,fits a w n∧∀ m,fits a w m→n≤m:=by
  intro a w ⟨n,hn⟩
  induction n using Nat.strongRecOn with
  | _ n ih =>
   by_cases h:∃ m,m<n∧fits a w m
   ·obtain ⟨m,hm,hf⟩:=h
    exact ih m hm hf
   ·exact ⟨n,hn,fun m hm=>ZaS fun aM=>h ⟨m,aM,hm⟩⟩
 let M:Act→World→Nat:=fun a w=>Classical.epsilon fun n=>fits a w n∧∀ m,fits a w m→n≤m
 have hM:∀ a w,(∃ n,fits a w n)→fits a w (M a w)∧∀ m,fits a w m→M a w≤m:=fun a w h=>Classical.epsilon_spec (least a w h)
 refine wpIn_loop (fun a w=>∃ n,fits a w n) M ?_ ?_
 ·obtain ⟨D,i,hi,hs⟩:=h0 a w bh
  exact ⟨μ i,D,i,hi,rfl,hs⟩
 ·intro a w hI
  obtain ⟨⟨D,i,hi,hm,hs⟩,_⟩:=hM a w hI
  refine wpIn_mono (round i hi D a w hs) fun e a' w' h=>?_
  cases e with
  | normal =>
   obtain ⟨D',j,hj,aM,hs'⟩:=h
   have hf:fits a' w' (μ j):=⟨D',j,hj,rfl,hs'⟩
   exact ⟨⟨_,hf⟩,Nat.lt_of_le_of_lt ((hM a' w' ⟨_,hf⟩).2 _ hf) (by rw [← hm];exact aM)⟩
  | _=>exact h
theorem A7 {Φ:ι→Prop} {sI:ι→aH} {hI:ι→List bd} {μ:ι→Nat} {i:ι} (j:ι) {rest:List bd} (hΦ:Φ j) (hμ:μ j<μ i) (hs1:lB sl (sI j)) (ht:bD hs (hI j) rest):Tr c D sl hs (yR c Φ sI hI μ i):=
 fun a w bh=>⟨D,j,hΦ,hμ,bh.weaken hs1 ht⟩
theorem xH {Φ:ι→Prop} {sI:ι→aH} {hI:ι→List bd} (j:ι) {rest:List bd} (hΦ:Φ j) (hs1:lB sl (sI j)) (ht:bD hs (hI j) rest):Tr c D sl hs (wi c Φ sI hI):=
 fun a w bh=>⟨D,j,hΦ,bh.weaken hs1 ht⟩
theorem lM {nt:Nat} {W:World} {fp:List Nat} {l:Nat} {rc:Loop} {Φ:Nat→ι→Prop} {A:ι→List bd} {Ψ:κ→Prop} {B:κ→List bd} {pd:κ→Code} {k:Nat} {s:LoopState} {p:Option Code} (x:ι) {rst Mw:List bd}
  (ht:Take hs (bH l (fR rc s p)) rst) (hx:Φ k x) (h2:bD rst (A x) Mw):Tr ⟨W,fp,nt⟩ D sl hs (roundPost P l (oT fp W (py l rc Φ A Ψ B pd k)) .normal):=
 F1 (c:=⟨W,fp,nt⟩) (post:=py l rc Φ A Ψ B pd k) x rfl ht hx (bD.cons .here h2)
theorem LX {nt:Nat} {W:World} {fp:List Nat} {l:Nat} {rc:Loop} {Φ:Nat→ι→Prop} {A:ι→List bd} {Ψ:κ→Prop} {B:κ→List bd} {pd:κ→Code} {k:Nat} {s:LoopState} {p:Option Code} (y:κ) {rst Mw:List bd}
  (QZ:pd y=.ret) (ht:Take hs (bH l (fR rc s p)) rst) (hy:Ψ y) (h2:bD rst (B y) Mw):Tr ⟨W,fp,nt⟩ D sl hs (roundPost P l (oT fp W (py l rc Φ A Ψ B pd k)) .ret):=by
 refine F0 (c:=⟨W,fp,nt⟩) (post:=py l rc Φ A Ψ B pd k) (Φ:=Ψ) (A:=fun y=>bH l (fR rc .done (some (pd y)))::B y) y (rest:=Mw) rfl ht hy ?_
 rw [QZ];exact bD.cons .here h2
end
end Go.SL
namespace Go.SL
open Go
theorem tQ {α:Type} {zs:List α} {n i:Nat} (h0:0<zs.length) (hi:i<n*zs.length):(List.replicate n zs).flatten[i]? = zs[i % zs.length]?:=by
 induction n generalizing i with
 | zero=>omega
 | succ n ih =>
  rw [List.replicate_succ,ZaC,List.getElem?_append]
  split
  ·rw [Nat.mod_eq_of_lt (by assumption)]
  ·rw [ih (by rw [Zaf] at hi;omega),Nat.mod_eq_sub_mod (a:=i) (by omega)]
theorem vf {z:Array Value} {n:Nat} (h0:0<z.size):(madeCells z (n*z.size))=(List.replicate n z.toList).flatten.toArray:=by
 apply Array.ext'
 apply Zap
 intro i
 rw [ZaD]
 by_cases hi:i<n*z.size
 ·have:=tQ (zs:=z.toList) (n:=n) (i:=i) (by simpa using h0) (by simpa using hi)
  rw [this]
  simp [madeCells,hi,Nat.mod_lt _ h0]
 ·rw [Zbt (by simp [size_madeCells];omega),Zah (by simp;omega)]
section
variable {P:Program} {c:Cx} {sl:aH} {hs:List bd} {dst:Option Tmp} {ty:TypeId} {pos:String} {af:Array Edge} {g:Option (Nat×Bool)}
theorem MB {t e:TypeId} {agg:Bool} {size bytes l cp:Nat} {z:Value} {x y:Operand} {kx ky:IntKind} [hu:iV P t (.slice e)] [hT:Ty P e agg size] [hZ:lZ P e z] [hB:wE P e bytes]
  (hx:Is sl x (.int kx l)) (hy:Is sl y (.int ky cp)) (hl:l≤cp) (hb:bytes*cp≤281474976710656) (hz:z.cells.size=size) (hsz:Nat.blt 0 size=true) (h63:cp≤9223372036854775807) :
  qI P c sl hs ⟨dst,.makeSlice t x y,ty,pos,af,g⟩ (fun b=>.slice (some ⟨b,0,none⟩) l cp) (.cells (List.replicate cp z.cells.toList).flatten.toArray e (0,0)):=
 ⟨by simp,fun a w ha _=>by
  obtain ⟨de,i,mq,hi,_,iH⟩:=Ty.parts (P:=P) (t:=e) (agg:=agg) (n:=size)
  have hzero:i.zero=some z:=by have:=hZ.eq;rw [hi] at this;simpa using this
  have gK:i.bytes=bytes:=by have:=hB.eq;rw [hi] at this;simpa using this
  have hs0:0<size:=by simpa [Z2] using hsz
  have:=run_make (P:=P) w t e i z hu.eq hi hzero kx ky l cp (by omega) (by omega) (by rw [gK];omega) (by omega)
  have e1:=vf (z:=z.cells) (n:=cp) (by omega)
  rw [hz] at e1
  simp only [execOp,hx a ha,hy a ha]
  refine (by rw [Sem.run_bind,this];simp only [ZI,iH,e1];rfl)⟩
end
end Go.SL
namespace Go.SL
open Go
def sW (n:Nat) (f:Nat→List Value):List Value:=((List.range n).map f).flatten
theorem hG {n sz:Nat} {f:Nat→List Value} (hf:∀ i,i<n→(f i).length=sz):(sW n f).length=n*sz:=by
 unfold sW
 induction n with
 | zero=>simp
 | succ n ih =>
  rw [Zby,Zs,Zac,Zg,ih (fun i h=>hf i (by omega))]
  simp [hf n (by omega),Zaf]
theorem zg {n sz i j:Nat} {f:Nat→List Value} (hf:∀ i,i<n→(f i).length=sz) (hi:i<n) (hj:j<sz):(sW n f)[i*sz+j]? = (f i)[j]?:=by
 have hl:=hf i hi
 obtain ⟨u,hu⟩:∃ u,(f i)[j]? = some u:=⟨(f i)[j]'(by omega),Zc (by omega)⟩
 rw [hu]
 exact oK _ i (fun r hr=>by obtain ⟨k,hk,rfl⟩:=Zt.1 hr;exact hf k (ZQ.1 hk)) (by simp [hi]) hu
theorem my {n:Nat} {f g:Nat→List Value} (h:∀ i,i<n→f i=g i):sW n f=sW n g:=by
 unfold sW
 congr 1
 exact Zbb fun i hi=>h i (ZQ.1 hi)
theorem iu:∀ (vs cs:List Value) (o k:Nat),o+vs.length≤cs.length→(setCells cs o vs)[k]? = if o≤k∧k<o+vs.length then vs[k-o]? else cs[k]?
 | [], cs, o, k, _ => by
  rw [if_neg (by simp only [Zai];omega)];rfl
 | v :: vs, cs, o, k, h => by
  simp only [ZL] at h ⊢
  rw [setCells,iu vs _ (o+1) k (by simp;omega)]
  by_cases h1:o+1≤k∧k<o+1+vs.length
  ·rw [if_pos h1,if_pos (by omega),show k-o=(k-(o+1))+1 by omega,ZaX]
  ·rw [if_neg h1]
   by_cases h2:k=o
   ·subst h2
    rw [if_pos (by omega),Nat.sub_self,Zay,List.getElem?_set_self (by omega)]
   ·rw [if_neg (by omega),List.getElem?_set_ne (by omega)]
theorem F8 {n sz k:Nat} (h:k<n*sz):k / sz<n∧k % sz<sz∧k=k / sz*sz+k % sz:=by
 have hs:0<sz:=by
  rcases Nat.eq_zero_or_pos sz with h0 | h0
  ·subst h0;simp at h
  ·exact h0
 refine ⟨Nat.div_lt_of_lt_mul (by rwa [Nat.mul_comm]),Nat.mod_lt _ hs,?_⟩
 have:=Nat.div_add_mod k sz
 rw [Nat.mul_comm] at this
 exact this.symm
theorem Mc {n sz i o:Nat} {f:Nat→List Value} {vs:List Value} (hf:∀ i,i<n→(f i).length=sz) (hi:i<n) (ho:o+vs.length≤sz) :
  setCells (sW n f) (i*sz+o) vs=sW n (fun k=>if k=i then setCells (f i) o vs else f k):=by
 have hm:(i+1)*sz≤n*sz:=Z7 _ hi
 rw [Zaf] at hm
 have hg:∀ k,k<n→((fun k=>if k=i then setCells (f i) o vs else f k) k).length=sz:=fun k hk=>by
  show (if k=i then _ else _:List Value).length=sz
  split
  ·rw [kl,hf i hi]
  ·exact hf k hk
 have Ui:=hG hf
 have Fe:=hG hg
 apply Zap
 intro k
 rw [iu _ _ _ _ (by rw [Ui];omega)]
 by_cases hk:k<n*sz
 ·obtain ⟨h1,h2,h3⟩:=F8 hk
  rw [h3,zg hg h1 h2,zg hf h1 h2]
  by_cases e:k / sz=i
  ·rw [e]
   simp only [if_true]
   rw [iu _ _ _ _ (by rw [hf i hi];omega)]
   by_cases h4:o≤k % sz∧k % sz<o+vs.length
   ·rw [if_pos h4,if_pos (by omega),show i*sz+k % sz-(i*sz+o)=k % sz-o by omega]
   ·rw [if_neg h4,if_neg (by omega)]
  ·rw [if_neg]
   ·simp only [if_neg e]
   ·intro ⟨h4,h5⟩
    rcases Nat.lt_or_gt_of_ne e with e | e
    ·have:(k / sz+1)*sz≤i*sz:=Z7 _ e
     rw [Zaf] at this;omega
    ·have:(i+1)*sz≤k / sz*sz:=Z7 _ e
     rw [Zaf] at this;omega
 ·rw [if_neg (by omega),Zah (by omega),Zah (by omega)]
theorem Dd (n:Nat) (f:Nat→List Value):sW n f=((List.range n).map f).flatten:=rfl
theorem At.jL {c:Cx} {hs hs':List bd} {b o:Nat} {cs:List Value} {E:TypeId} {fz:Nat×Nat} {v:Value} (ht:Take hs (SL.bH b (.cells cs.toArray E fz)) hs') (hv:cs[o]? = some v):At c hs b o v:=
 At.bH ht (by simpa using hv)
section
variable {P:Program} {c:Cx} {sl:aH} {hs hs':List bd}
theorem sG {fn:Func} {t u:Tmp} {T:TypeId} {b o n:Nat} {cs vs:List Value} {E:TypeId} {fz:Nat×Nat} {y:Value} (h:fn.results=#[.cell t T,.tmp u]) (hT:Ty P T true n) (hp:cS sl t=some (.pointer (some ⟨b,o,none⟩))) (ht:Take hs (SL.bH b (.cells cs.toArray E fz)) hs') (hv:ed cs o n=vs) (hl:vs.length=n) (hy:cS sl u=some y):Ends P fn c sl hs (.tuple #[.agg vs.toArray,y]):=
 Pn (xs:=[.cell t T,.tmp u]) (vs:=[.agg vs.toArray,y]) h (G6.cons (RV.cell hp (IG (ew.bH ht hv) hl)) (G6.cons (RV.tmp hy) G6.nil)) (by simp)
variable {dst:Option Tmp} {ty:TypeId} {pos:String} {af:Array Edge} {g:Option (Nat×Bool)}
theorem bB {t e:TypeId} {agg:Bool} {n size:Nat} {z:Value} {xs:List (Nat×Operand)} {ps:List (Nat×Value)} {zs cs:List Value} {places:List (Nat×Nat)} [hu:iV P t (.slice e)] [hT:Ty P e agg size] [hZ:lZ P e z] (hp:wh sl xs ps)
  (hn:Nat.ble (n*size) 1000=true) (Nu:Nat.blt 0 (n*size)=true) (AL:(List.range n).map (fun i=>(i*size,size))=places) (hzs:(List.range (n*size)).map (fun i=>z.cells[i % z.cells.size]!)=zs) (hf:tz places zs ps=some cs) :
  qI P c sl hs ⟨dst,.buildSlice t n xs.toArray,ty,pos,af,g⟩ (fun b=>.slice (some ⟨b,0,none⟩) n n) (.cells cs.toArray e):=
 mg (ps:=ps.toArray) (fun a ha=>by have:=hp.map ha;rw [List.map_toArray,this]) (fun w=>by
  have uo:n*size≤1000:=by simpa using hn
  have nB:0<n*size:=by simpa [Z2] using Nu
  unfold Instr.buildSlice
  simp only [Sem.run_bind,aV hu.eq,Result.andThen_ok,fQ (t:=e) (agg:=agg) (n:=size)]
  rw [if_neg (by omega),if_neg (by omega)]
  simp only [Sem.run_bind,iv (t:=e) (v:=z),Result.andThen_ok,Sem.run_pure]
  have h1:(Array.range (n*size)).map (fun i=>z.cells[i % z.cells.size]!)=zs.toArray:=by
   rw [← hzs];apply Array.ext';simp
  have h2:=fill_eq (places:=places) (f:=fun i=>if i<n then some (i*size,size) else none) (fun i x hx=>by
   subst AL
   simp only [ZF,Zak] at hx
   obtain ⟨k,hk,rfl⟩:=hx
   obtain ⟨aM,hk⟩:=Zl.1 hk
   simp only [Zbw] at hk;subst hk
   simp only [ZaN] at aM
   simp [aM]) ps zs cs hf
  have h3:Instr.fill (fun i=>some (i*size,size)) zs.toArray ps=some cs.toArray:=by
   have key:∀ (l:List (Nat×Value)) (cc:Array Value) (r:Array Value),Instr.fill (fun i=>if i<n then some (i*size,size) else none) cc l=some r→Instr.fill (fun i=>some (i*size,size)) cc l=some r:=by
    intro l
    induction l with
    | nil=>intro cc r h;exact h
    | cons x l ih =>
     obtain ⟨i,v⟩:=x
     intro cc r h
     simp only [Instr.fill] at h ⊢
     by_cases hi:i<n
     ·rw [if_pos hi] at h
      simp only at h
      split at h
      ·cases h
      ·rename_i hc
       rw [if_neg hc]
       exact ih _ _ h
     ·rw [if_neg hi] at h;cases h
   exact key ps zs.toArray cs.toArray h2
  rw [h1,h3]
  simp [newRow])
theorem aT {D:List Nat} {X:Act→World→Prop} {E:TypeId} {sz n:Nat} {v:Value} {xs:List Value} (ht:Take hs (row E sz v n xs) hs') (k:∀ a cap,v=.slice a n cap→Tr c D sl hs X):Tr c D sl hs X:=fun a w bh=>by
 obtain ⟨_,fp,_,⟨f1,f2,_,h1,_⟩,_⟩:=bh.rn.take ht
 obtain ⟨_,_,⟨rfl,rfl⟩ | ⟨g,cap,cur,rfl,_⟩⟩:=h1
 ·exact k _ _ rfl a w bh
 ·exact k _ _ rfl a w bh
end
end Go.SL
namespace Go.SL
open Go
def NP (Q:Exit→Act→World→Prop):Exit→Act→World→Prop
 | .panic _=>fun _ _=>False
 | e=>Q e
theorem Oper.uA {F:Fence} {n:Nat} {P:Program} {o:Oper} {a:Act} {w:World} {K K':Act→World→Prop} {Q Q':Exit→Act→World→Prop} (h:∀ a w,K a w→K' a w) (hq:∀ c a w,Q (.panic c) a w→Q' (.panic c) a w) (hl:LetsOut Q→LetsOut Q')
  (hh:o.wpIn F n P a w K Q):o.wpIn F n P a w K' Q':=by
 unfold Oper.wpIn at *
 refine ⟨hh.1,?_⟩
 have hh:=hh.2
 generalize (o.semAt F.round a.eval).run P w=r at *
 cases r with
 | ok x w' =>
  cases x <;> simp only [Oper.uponIn] at hh ⊢ <;>
   first
    | exact h _ _ hh
    | exact ⟨hh.1,CallsIn.mono hh.2 (fun e wG he=>by cases e <;> first | exact h _ _ he | exact hq _ _ _ he | exact hl he | exact he)⟩
    | exact ⟨hh.1,RowsIn.mono hh.2 (fun _ _ he=>h _ _ he)⟩
    | exact ⟨hh.1,RoundIn.mono hh.2 (fun e wG he=>by cases e <;> first | exact h _ _ he | exact hq _ _ _ he | exact hl he | exact he)⟩
 | halt x w'=>cases x <;> simp only [Oper.uponIn] at hh ⊢ <;> first | exact hh | exact hq _ _ _ hh
section
variable {P:Program} {r:Option Nat} {c:Cx} {D:List Nat} {sl:aH} {hs hs':List bd} {Q:Exit→Act→World→Prop} {ops:Array Oper} {fuel i:Nat} {listed:Array Bool}
def Left (P:Program) (ops:Array Oper) (Q:Exit→Act→World→Prop) (fuel:Nat) (listed:Array Bool):Act→World→Prop:=wpAnyIn (FR none) 0 P .any ops (NP Q) fuel listed
theorem L5 {id:Nat} {l:List Oper} (n:Nat) [qi:Sl P] (hn:l.length=n) (k:Tr c D sl hs (Left P l.toArray Q n (Array.replicate n false))):Tr c D sl hs (WP P none (.region id l.toArray true) Q):=fun a w bh=>by
 subst hn
 have h:(Code.region id l.toArray true).wpIn (FR none) 0 P (NP Q) a w:=wpIn_region_any qi.eq (by
  have:=k a w.drew (bh.heap bh.mem.drew)
  simpa [Left] using this)
 exact wpIn_mono h fun e a' w' h=>by
  cases e with
  | panic c=>exact h.elim
  | _=>exact h
theorem eO (i:Nat) {d:Nat} {op:Op} {ty:TypeId} {pos:String} {af:Array Edge} {V:Value} (hi:ops[i]? = some ⟨some d,op,ty,pos,af,none⟩) (hs1:Region.noSelect ops=true) (hf:Region.free .any ops listed i=true) (hr:(Region.ready .any ops listed).contains i=true)
  (SJ:∀ (w:World) (ρ:Operand→Value),Oper.about P w ρ ⟨some d,op,ty,pos,af,none⟩=none) (hv:∀ w,cY P ⟨w,[],0⟩ sl [] ⟨some d,op,ty,pos,af,none⟩ V) (hd:Nat.blt d c.nt=true)
  (k:Tr c D ((d,V)::sl) hs (Left P ops Q fuel (listed.setIfInBounds i true))):Tr c D sl hs (Left P ops Q (fuel+1) listed):=fun a w bh=>by
 refine wpAnyIn_take (oi:=⟨some d,op,ty,pos,af,none⟩) rfl hi hs1 hf hr (fun c a w h=>h) (v:=V) ⟨.inl ⟨by simp [Region.wanted],fun w'=>?_⟩,fun w'=>SJ w' _⟩ (k _ _ (bh.put (by simpa [Z2] using hd) V))
 exact (hv w').2 a w' bh.c5 ⟨.refl _ _,[],Zaj,rfl,by simp⟩
def Next (P:Program) (c:Cx) (D:List Nat) (sl:aH) (hs:List bd) (ops:Array Oper) (Q:Exit→Act→World→Prop) (fuel:Nat) (listed:Array Bool) (i:Nat):Prop:=
 ∀ a w,St c D sl hs a w→wpOpIn (FR none) 0 P ops (NP Q) i (Left P ops Q fuel (listed.setIfInBounds i true)) a w
theorem cC {rs:List Nat} (hr:Region.ready .any ops listed=rs) (hne:rs≠[]) (h:∀ i∈rs,Next P c D sl hs ops Q fuel listed i):Tr c D sl hs (Left P ops Q (fuel+1) listed):=fun a w bh=>
 wpAnyIn_all hr hne fun i hi=>h i hi a w bh
theorem cQ {d:Option Tmp} {op:Op} {ty:TypeId} {pos:String} {af:Array Edge} {g:Option (Nat×Bool)} (hi:ops[i]? = some ⟨d,op,ty,pos,af,g⟩) (h:Tr c D sl hs (WL P none ops (Exit.then (Left P ops Q fuel (listed.setIfInBounds i true)) (NP Q)) [⟨d,op,ty,pos,af,g⟩])):Next P c D sl hs ops Q fuel listed i:=fun a w bh=>by
 have h1:=h a w bh
 unfold wpOpIn
 simp only [hi]
 unfold WL at h1
 split
 ·rename_i hw
  rw [if_pos hw] at h1
  exact Oper.uA (fun a w h=>h) (fun c a w h=>h) (fun h=>h) h1
 ·rename_i hw
  rw [if_neg hw] at h1
  exact ⟨fun _ _=>trivial,h1⟩
theorem cH (hr:Region.ready .any ops listed=[]) (k:Tr c D sl hs (Q .normal)):Tr c D sl hs (Left P ops Q fuel listed):=fun a w bh=>
 wpAnyIn_done (Q:=NP Q) hr (k a w bh) fuel
theorem Hp {x:Code} (h:Tr c D sl hs (WP P none x (Exit.noGoto Q))):Tr c D sl hs (WP P none (.scope x) Q):=fun a w bh=>
 (wpIn_wide (n:=0)).2 (wp_scope_straight ((wpIn_wide (n:=0)).1 (h a w bh)))
theorem rU (h:Tr c D sl hs (Q .ret)):Tr c D sl hs (Exit.noGoto Q .ret):=h
theorem Ht {l:Nat} {r:Option Nat} (h:Tr c D sl hs (Q .normal)):Tr c D sl hs (WP P r (.label l) Q):=fun a w bh=>wpIn_label (h a w bh)
variable {dst:Option Tmp} {ty:TypeId} {pos:String} {af:Array Edge} {g:Option (Nat×Bool)}
theorem gD {t u e:TypeId} {x y:Operand} {a:Option Addr} {n cp n' SQ:Nat} [hu:iV P t (.slice e)] (hx:Is sl x (.slice a n cp)) (hy:Is sl y (.slice none n' SQ)):cY P c sl hs ⟨dst,.binOp .eql t x y u,ty,pos,af,g⟩ (.bool a.isNone):=
 iP hx hy fun w=>by
  have h1:(eqGuard .eql t x y (.slice a n cp) (.slice none n' SQ)).run P w=.ok () w:=by simp [eqGuard]
  rw [Sem.run_bind,h1,Result.andThen_ok]
  exact Go.Lib.run_eql_slice_nil w t e a n cp n' SQ hu.eq
end
end Go.SL
namespace Go.SL
open Go
class BP (b:Bool) (p q:outParam Prop):Prop where
 t:b=true→p
 f:b=false→q
instance (priority:=low) {b:Bool}:BP b (b=true) (b=false):=⟨id,id⟩
instance {p:Prop} {inst:Decidable p}:BP (@decide p inst) p (¬ p):=⟨of_decide_eq_true,of_decide_eq_false⟩
instance {a:Bool} {p q:Prop} [h:BP a p q]:BP (!a) q p:=⟨fun e=>h.f (by simpa using e),fun e=>h.t (by simpa using e)⟩
instance {a b:Bool} {p q p' q':Prop} [h:BP a p q] [h':BP b p' q']:BP (a||b) (p∨p') (q∧q'):=
 ⟨fun e=>(ZO _ _ ▸ e).elim (fun e=>.inl (h.t e)) (fun e=>.inr (h'.t e)),fun e=>by
  rw [Bool.or_eq_false_iff] at e
  exact ⟨h.f e.1,h'.f e.2⟩⟩
instance {a b:Bool} {p q p' q':Prop} [h:BP a p q] [h':BP b p' q']:BP (a&&b) (p∧p') (q∨q'):=
 ⟨fun e=>by
  rw [Zm] at e
  exact ⟨h.t e.1,h'.t e.2⟩,fun e=>(Bool.and_eq_false_iff.1 e).elim (fun e=>.inl (h.f e)) (fun e=>.inr (h'.f e))⟩
instance {a:Bool} {p q:Prop} [h:BP a p q]:BP (a==true) p q:=⟨fun e=>h.t (by simpa using e),fun e=>h.f (by simpa using e)⟩
instance {a:Bool} {p q:Prop} [h:BP a p q]:BP (a==false) q p:=⟨fun e=>h.f (by simpa using e),fun e=>h.t (by simpa using e)⟩
theorem gq:∀ u∈([]:List Value),u.oneCell'=true:=fun _ h=>absurd h Zp
theorem bM {v:Value} {vs:List Value} (h:v.oneCell'=true) (t:∀ u∈vs,u.oneCell'=true):∀ u∈v::vs,u.oneCell'=true:=ZA.2 ⟨h,t⟩
theorem SB {n:Int} (h:-9223372036854775808≤n∧n≤9223372036854775807):Vp n:=h
theorem bG {a b:Nat} (h:Nat.ble a b=true):a≤b:=Zav h
theorem ak {α:Type} {a b:α} (h:a=b:=by (first | (simp only [Int.toNat_zero,Int.toNat_one,Int.reduceToNat,tz,setCells,ed,partOf,Value.cells,tK,cond_true,cond_false,Zay,ZaX,List.set_cons_zero,List.set_cons_succ,Zbm,ZL,Zai,Nat.reduceAdd,Nat.reduceMul,Nat.reduceLeDiff,and_self,and_true,true_and,if_true,List.set,List.length_set,Zz,ZC,Zaw];exact rfl) | exact rfl)):a=b:=h
theorem ae {α:Type} {a b:α} (h:a=b:=by (first | (simp only [Nat.reduceAdd,ZC,Zaw];exact rfl) | exact rfl)):a=b:=h
theorem bb {α:Type} {a b:α} (h:a=b:=by (first | (simp only [ZI,ZC,Int.reduceToNat,Int.toNat_zero,Int.toNat_one];exact rfl) | exact rfl)):a=b:=h
theorem ez {α:Type} {a b:α} (h:a=b:=by first | ((try simp only [Za,ZU,Zb]);exact rfl) | exact rfl):a=b:=h
theorem bQ {α:Type} {a b:α} (h:a=b:=by first | (simp only [List.range,List.range.loop,List.map,Nat.reduceMul];exact rfl) | exact rfl):a=b:=h
theorem eC {a b:Nat} (h:a≤b:=by first | omega | (simp only [Zg,ZL,Zai];omega)):a≤b:=h
theorem mo {α:Type} {a b:α} (h:a=b:=by kernel_rfl):a=b:=h
section
variable {P:Program} {r:Option Nat} {c:Cx} {D:List Nat} {sl:aH} {rl:eL} {hs hs':List bd} {Q:Exit→Act→World→Prop} {ops:Array Oper} {m d:Nat} {dst:Option Tmp} {op:Op} {ty:TypeId} {pos:String} {af:Array Edge} {rest:List Oper}
theorem A8 {t:TypeId} (hd:Nat.blt d c.nt=true) (k:∀ b,c.w0.heap.size≤b→Tr c D ((d,.map (some b))::sl) (mp (fun s:ByteArray=>Value.string s) b []::hs) (WL P r ops Q rest)) :
  Tr c D sl hs (WL P r ops Q (⟨some d,.makeMap t none,ty,pos,af,none⟩::rest)):=C4 (fun s:ByteArray=>Value.string s) hd k
theorem dC {j g:Nat} {want q:Bool} (hj:((ops[j]?).bind (·.dst))=some g) (hq:cS sl g=some (.bool q)) (hn:(q==want)=false) (hd:Nat.blt d c.nt=true) (k:Tr c D ((d,gv (q==want) (.bool false))::sl) hs (WL P r ops Q rest)) :
  Tr c D sl hs (WL P r ops Q (⟨some d,op,ty,pos,af,some (j,want)⟩::rest)):=uE hj hq (fun e=>absurd (hn.symm.trans e) (by decide)) hd k
theorem Hx {x:Operand} {b:Bool} {p q:Prop} {u v:Code} (hx:Is sl x (.bool b)) (hb:BP b p q)
  (ht:p→Tr c D sl hs (WP P r u Q)) (hf:q→Tr c D sl hs (WP P r v Q)):Tr c D sl hs (WP P r (.cond x u v) Q):=
 EB hx (fun e=>ht (hb.t e)) (fun e=>hf (hb.f e))
theorem kB {V:Value} {p p':Prop} {j g:Nat} {want c0 q:Bool} (hj:((ops[j]?).bind (·.dst))=some g) (hq:cS sl g=some (gv c0 (.bool q))) (hb:BP (c0&&(q==want)) p p')
  (hr:(c0&&(q==want))=true→p→cY P c sl hs ⟨some d,op,ty,pos,af,some (j,want)⟩ V) (hd:Nat.blt d c.nt=true) (k:Tr c D ((d,gv (c0&&(q==want)) V)::sl) hs (WL P r ops Q rest)) :
  Tr c D sl hs (WL P r ops Q (⟨some d,op,ty,pos,af,some (j,want)⟩::rest)):=Ex hj hq (fun e=>hr e (hb.t e)) hd k
theorem aD {V:Value} {p p':Prop} {j g:Nat} {want q:Bool} (hj:((ops[j]?).bind (·.dst))=some g) (hq:cS sl g=some (.bool q)) (hb:BP (q==want) p p')
  (hr:(q==want)=true→p→cY P c sl hs ⟨some d,op,ty,pos,af,some (j,want)⟩ V) (hd:Nat.blt d c.nt=true) (k:Tr c D ((d,gv (q==want) V)::sl) hs (WL P r ops Q rest)) :
  Tr c D sl hs (WL P r ops Q (⟨some d,op,ty,pos,af,some (j,want)⟩::rest)):=uE hj hq (fun e=>hr e (hb.t e)) hd k
theorem dP {V:Value} {p p':Prop} {j gs:Nat} {want c0 q:Bool} (hj:((ops[j]?).bind (·.dst))=some gs) (hq:cS sl gs=some (gv c0 (.bool q))) (hb:BP (c0&&(q==want)) p p')
  (hr:(c0&&(q==want))=true→p→cY P c sl hs ⟨some d,op,ty,pos,af,some (j,want)⟩ V) (hd:Nat.blt d c.nt=true) (k:kV P r c D hs ops Q m rest ((d,gv (c0&&(q==want)) V)::sl) rl) :
  kV P r c D hs ops Q (m+1) (⟨some d,op,ty,pos,af,some (j,want)⟩::rest) sl rl:=CE hj hq (fun e=>hr e (hb.t e)) hd k
theorem bn {V:Value} {p p':Prop} {j gs:Nat} {want q:Bool} (hj:((ops[j]?).bind (·.dst))=some gs) (hq:cS sl gs=some (.bool q)) (hb:BP (q==want) p p')
  (hr:(q==want)=true→p→cY P c sl hs ⟨some d,op,ty,pos,af,some (j,want)⟩ V) (hd:Nat.blt d c.nt=true) (k:kV P r c D hs ops Q m rest ((d,gv (q==want) V)::sl) rl) :
  kV P r c D hs ops Q (m+1) (⟨some d,op,ty,pos,af,some (j,want)⟩::rest) sl rl:=GX hj hq (fun e=>hr e (hb.t e)) hd k
end
theorem FA {P:Program} {c:Cx} {sl:aH} {hs:List bd} {fn:Func} {t:Tmp} {T:TypeId} {b o n:Nat} {v:Value} (h:fn.results=#[.cell t T]) (hT:Ty P T false n) (hp:cS sl t=some (.pointer (some ⟨b,o,none⟩))) (hv:At c hs b o v):Ends P fn c sl hs v:=RU h hp hv
section
variable {P:Program} {r:Option Nat} {c:Cx} {D:List Nat} {sl:aH} {rl:eL} {hs hs':List bd} {Q:Exit→Act→World→Prop} {ops:Array Oper} {m d:Nat} {op:Op} {ty:TypeId} {pos:String} {af:Array Edge} {rest:List Oper}
theorem s_r {id:Nat} {l:List Oper} {y:Code} (h:Tr c D sl hs (WL P r l.toArray (Exit.then (WP P r y Q) Q) l)):Tr c D sl hs (WP P r (.seq (.region id l.toArray false) y) Q):=C3 (rT h)
theorem n_t {N:Act→World→Prop} (h:Tr c D sl hs N):Tr c D sl hs (WL P r ops (Exit.then N Q) []):=h
theorem n_r {id:Nat} {l:List Oper} {y:Code} {Q':Exit→Act→World→Prop} (h:Tr c D sl hs (WL P r l.toArray (Exit.then (WP P r y Q) Q) l)):Tr c D sl hs (WL P r ops (Exit.then (WP P r (.seq (.region id l.toArray false) y) Q) Q') []):=C3 (rT h)
theorem s_t {N:Act→World→Prop} (h:Tr c D sl hs N):Tr c D sl hs (WP P r .skip (Exit.then N Q)):=Ey h
theorem x_t {N:Act→World→Prop} {id:Nat} (h:Tr c D sl hs (Q (.exit id))):Tr c D sl hs (WP P r (.exit id) (Exit.then N Q)):=L6 h
theorem r_t {N:Act→World→Prop} (h:Tr c D sl hs (Q .ret)):Tr c D sl hs (WP P r .ret (Exit.then N Q)):=Hq h
theorem Lq {x:Operand} {v:Value} (hx:ev sl x=some v) (hd:Nat.blt d c.nt=true) (k:Tr c D ((d,v)::sl) hs (WL P r ops Q rest)):Tr c D sl hs (WL P r ops Q (⟨some d,.move x,ty,pos,af,none⟩::rest)):=ab (aN (.of hx)) hd k
theorem a_s {x:Operand} {v:Value} (hx:ev sl x=some v) (hd:Nat.blt d c.nt=true) (k:Tr c D ((d,v)::sl) hs (WL P r ops Q rest)):Tr c D sl hs (WL P r ops Q (⟨some d,.assign x,ty,pos,af,none⟩::rest)):=ab (cB (.of hx)) hd k
theorem ju {x:Operand} {v:Value} (hx:ev sl x=some v) (hd:Nat.blt d c.nt=true) (k:kV P r c D hs ops Q m rest ((d,v)::sl) rl):kV P r c D hs ops Q (m+1) (⟨some d,.move x,ty,pos,af,none⟩::rest) sl rl:=aF (aN (.of hx)) hd k
theorem bS {t:TypeId} {i o:Nat} {x:Operand} {b k q:Nat} [eu P t i o] (hx:ev sl x=some (.pointer (some ⟨b,k,none⟩))) (hd:Nat.blt d c.nt=true) (he:k+o=q) (h:Tr c D ((d,.pointer (some ⟨b,q,none⟩))::sl) hs (WL P r ops Q rest)) :
  Tr c D sl hs (WL P r ops Q (⟨some d,.fieldAddr t x i,ty,pos,af,none⟩::rest)):=ab (au (.of hx) he) hd h
theorem nF {t:TypeId} {i o:Nat} {x:Operand} {b k q:Nat} [eu P t i o] (hx:ev sl x=some (.pointer (some ⟨b,k,none⟩))) (hd:Nat.blt d c.nt=true) (he:k+o=q) (h:kV P r c D hs ops Q m rest ((d,.pointer (some ⟨b,q,none⟩))::sl) rl) :
  kV P r c D hs ops Q (m+1) (⟨some d,.fieldAddr t x i,ty,pos,af,none⟩::rest) sl rl:=aF (au (.of hx) he) hd h
theorem il {x:Operand} {v:Value} {j g:Nat} {want q:Bool} (hj:((ops[j]?).bind (·.dst))=some g) (hq:cS sl g=some (.bool q)) (hx:ev sl x=some v) (hd:Nat.blt d c.nt=true) (k:Tr c D ((d,gv (q==want) v)::sl) hs (WL P r ops Q rest)) :
  Tr c D sl hs (WL P r ops Q (⟨some d,.move x,ty,pos,af,some (j,want)⟩::rest)):=uE hj hq (fun _=>aN (.of hx)) hd k
theorem gm {x:Operand} {p:Prop} {inst:Decidable p} {u v:Code} (hx:ev sl x=some (.bool (decide p))) (ht:p→Tr c D sl hs (WP P r u Q)) (hf:¬ p→Tr c D sl hs (WP P r v Q)):Tr c D sl hs (WP P r (.cond x u v) Q):=F3 (.of hx) ht hf
theorem pt {x:Operand} {b:Bool} {p q:Prop} {u v:Code} (hx:ev sl x=some (.bool b)) [hb:BP b p q] (ht:p→Tr c D sl hs (WP P r u Q)) (hf:q→Tr c D sl hs (WP P r v Q)):Tr c D sl hs (WP P r (.cond x u v) Q):=Hx (.of hx) hb ht hf
end
end Go.SL
