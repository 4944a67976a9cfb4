/- Parts of the proof: GkRow GkLoop GkRange GkSlice DU1Ty S1p. -/
import Derived.Test.YthhidjfahmcekaaDoorPM03
import Derived.Laws.AppendOwn
import Derived.Laws.RangeAny
import Derived.Laws.Slices
import Derived.Test.YthhidjfahmcekaaDoorProg
set_option linter.unusedSectionVars false
set_option linter.unusedVariables false
set_option linter.unusedSimpArgs false
namespace Go.SL
open Go
def Rd (w:World) (v:Value) (sz:Nat) (xs:List (List Value)):Prop:=
  ∃ a cap b o,v = .slice a xs.length cap ∧ xs.length ≤ cap ∧ cap ≤ maxLen ∧ (xs ≠ [] → a = some ⟨b,o,none⟩) ∧ ∀ i r,xs[i]? = some r → r.length = sz ∧ ∀ j u,r[j]? = some u → w.cell? ⟨b,o + i * sz + j,none⟩ = some u
theorem Rd.keeps {w w':World} {v:Value} {sz:Nat} {xs:List (List Value)} (h:Rd w v sz xs) (hk:Keeps [] w w'):Rd w' v sz xs:=by
  obtain ⟨a,cap,b,o,h1,h2,h2',h3,h4⟩:=h
  refine ⟨a,cap,b,o,h1,h2,h2',h3,fun i r hr=>⟨(h4 i r hr).1,fun j u hu=>?_⟩⟩
  have:=(h4 i r hr).2 j u hu
  have hb:=World.block_lt_of_cell? w _ this
  rw [← this]
  simp only [World.cell?]
  rw [hk.block b hb (by simp)]
theorem Rd.nil (w:World) (sz:Nat):Rd w (.slice none 0 0) sz []:=⟨none,0,0,0,rfl,Nat.le_refl _,by unfold maxLen;omega,fun h=>absurd rfl h,fun i r h=>by simp at h⟩
theorem rd1 {w:World} {b o i:Nat} {xs:List (List Value)} {u:Value} (h:∀ i r,xs[i]? = some r → r.length = 1 ∧ ∀ j u,r[j]? = some u → w.cell? ⟨b,o + i * 1 + j,none⟩ = some u) (hr:xs[i]? = some [u]):w.cell? ⟨b,o + i * 1,none⟩ = some u:=(h i _ hr).2 0 u rfl
theorem Mem.rdBlk {c:Cx} {hs hs':List Asn} {w:World} (hm:Mem c hs w) {b:Nat} {cs:List Value} {E:TypeId} {fz:Nat × Nat} (ht:Take hs (SL.blk b (.cells cs.toArray E fz)) hs') {n:Nat} (hn:cs.length = n) (hle:Nat.ble n 1000 = true):Rd w (.slice (some ⟨b,0,none⟩) n n) 1 (cs.map fun v=>[v]):=by
  subst hn
  have hle':cs.length ≤ 1000:=by simpa using hle
  refine ⟨_,cs.length,b,0,by simp,by simp,by unfold maxLen;omega,fun _=>rfl,fun i r hr=>?_⟩
  rw [List.getElem?_map,Option.map_eq_some_iff] at hr
  obtain ⟨v,hv,rfl⟩:=hr
  refine ⟨rfl,fun j u hu=>?_⟩
  cases j with
  | zero =>
    simp only [List.getElem?_cons_zero,Option.some.injEq] at hu
    subst hu
    rw [cell_of_block (hm.blk ht)]
    simpa using hv
  | succ j=>simp at hu
def row (E:TypeId) (sz:Nat) (v:Value) (n:Nat) (xs:List Value):Asn where
  sat h fp:=fp = v.ownBlock.toList ∧ xs.length = n * sz ∧ ((v = .slice none 0 0 ∧ n = 0) ∨
    ∃ g cap cur,v = .slice (some ⟨g,0,none⟩) n cap ∧ h g = some (.cells cur E (0,0)) ∧ n ≤ cap ∧ cap ≤ maxLen ∧ cur.size = cap * sz ∧ cur.toList.take (n * sz) = xs)
  loc:=by
    rintro h h' fp ⟨e,hl,h1⟩ hb
    refine ⟨e,hl,h1.imp id ?_⟩
    rintro ⟨g,cap,cur,rfl,hg,r⟩
    exact ⟨g,cap,cur,rfl,by rw [hb g (by rw [e];simp [Value.ownBlock])];exact hg,r⟩
  own:=by
    rintro h fp ⟨e,hl,h1⟩ b hb
    rcases h1 with ⟨rfl,_⟩ | ⟨g,cap,cur,rfl,hg,_⟩
    · rw [e] at hb;simp [Value.ownBlock] at hb
    · rw [e] at hb;simp [Value.ownBlock] at hb;subst hb;exact ⟨_,hg⟩
theorem row_owns {w:World} {E:TypeId} {sz:Nat} {v:Value} {n:Nat} {xs:List Value} {fp:List Nat} (h:(row E sz v n xs).sat (hp w) fp):w.ownsRow 0 E sz v n xs:=by
  obtain ⟨_,hl,h1⟩:=h
  exact ⟨hl,h1.imp id fun ⟨g,cap,cur,e,hg,r⟩=>⟨g,cap,cur,e,Nat.zero_le _,hg,r⟩⟩
theorem row_of_owns {w:World} {E:TypeId} {sz:Nat} {v:Value} {n:Nat} {xs:List Value} (h:w.ownsRow 0 E sz v n xs):(row E sz v n xs).sat (hp w) v.ownBlock.toList:=by
  obtain ⟨hl,h1⟩:=h
  exact ⟨rfl,hl,h1.imp id fun ⟨g,cap,cur,e,_,hg,r⟩=>⟨g,cap,cur,e,hg,r⟩⟩
theorem Mem.rowNil {c:Cx} {hs:List Asn} {w:World} (hm:Mem c hs w) (E:TypeId) (sz:Nat):Mem c (row E sz (.slice none 0 0) 0 [] :: hs) w:=
  Mem.change (As:=[]) (Bs:=[row E sz (.slice none 0 0) 0 []]) hm fun fp _ hf=>by
    rw [show fp = [] from hf]
    exact ⟨.refl _ _,[],List.nodup_nil,⟨[],[],rfl,⟨rfl,by simp,.inl ⟨rfl,rfl⟩⟩,rfl⟩,by simp⟩
theorem tr_rowNil {c:Cx} {D:List Nat} {sl:Slots} {hs:List Asn} {X:Act → World → Prop} (E:TypeId) (sz:Nat) (k:Tr c D sl (row E sz (.slice none 0 0) 0 [] :: hs) X):Tr c D sl hs X:=fun a w hst=>
  k a w (hst.heap (hst.mem.rowNil E sz))
theorem flatten_get {sz j:Nat} {r:List Value} {u:Value}:∀ (xs:List (List Value)) (i:Nat),(∀ r ∈ xs,r.length = sz) → xs[i]? = some r → r[j]? = some u → xs.flatten[i * sz + j]? = some u
  | [],i,_,hr,_=>by simp at hr
  | x :: xs, 0, hx, hr, hu => by
    simp at hr;subst hr
    rw [List.flatten_cons,List.getElem?_append_left (by rw [Nat.zero_mul,Nat.zero_add];exact (List.getElem?_eq_some_iff.1 hu).1),Nat.zero_mul,Nat.zero_add]
    exact hu
  | x :: xs, i + 1, hx, hr, hu => by
    have hxl:=hx x (by simp)
    rw [List.flatten_cons,List.getElem?_append_right (by rw [hxl,Nat.succ_mul];omega),hxl,Nat.succ_mul,show i * sz + sz + j - sz = i * sz + j from by omega]
    exact flatten_get xs i (fun r hr'=>hx r (by simp [hr'])) (by simpa using hr) hu
theorem row_rd {w:World} {E:TypeId} {sz:Nat} {v:Value} {n:Nat} {xs:List (List Value)} {fp:List Nat} (hx:∀ r ∈ xs,r.length = sz) (hn:xs.length = n) (h:(row E sz v n xs.flatten).sat (hp w) fp):Rd w v sz xs:=by
  subst hn
  obtain ⟨_,hl,h1⟩:=h
  rcases h1 with ⟨rfl,hn⟩ | ⟨g,cap,cur,rfl,hg,hcap,hm,hsz,htake⟩
  · have:xs = []:=List.length_eq_zero_iff.1 hn
    subst this
    exact Rd.nil w sz
  · refine ⟨_,cap,g,0,rfl,hcap,hm,fun _=>rfl,fun i r hr=>⟨hx r (List.mem_of_getElem? hr),fun j u hu=>?_⟩⟩
    have hgw:w.heap[g]? = some (.cells cur E (0,0)):=hg
    rw [cell_of_block hgw]
    have hrl:=hx r (List.mem_of_getElem? hr)
    have hi:i < xs.length:=(List.getElem?_eq_some_iff.1 hr).1
    have hj:j < sz:=by rw [← hrl];exact (List.getElem?_eq_some_iff.1 hu).1
    have hflat:xs.flatten[i * sz + j]? = some u:=flatten_get xs i hx hr hu
    have hlt:i * sz + j < xs.length * sz:=by
      have:(i + 1) * sz ≤ xs.length * sz:=Nat.mul_le_mul_right _ hi
      rw [Nat.succ_mul] at this
      omega
    rw [← htake,List.getElem?_take,if_pos hlt] at hflat
    simpa using hflat
theorem Mem.rdRow {c:Cx} {hs hs':List Asn} {w:World} (hm:Mem c hs w) {E:TypeId} {sz:Nat} {v:Value} {n:Nat} {ys:List Value} {xs:List (List Value)} (ht:Take hs (row E sz v n ys) hs') (he:ys = xs.flatten) (hx:∀ r ∈ xs,r.length = sz) (hn:xs.length = n):Rd w v sz xs:=by
  subst he
  obtain ⟨_,fp,_,⟨f1,f2,_,h1,_⟩,_⟩:=hm.take ht
  exact row_rd hx hn h1
theorem flatten_singletons {α:Type} (l:List α):(l.map fun v=>[v]).flatten = l:=by
  induction l with
  | nil=>rfl
  | cons x l ih=>simp [ih]
theorem Mem.rdRow1 {c:Cx} {hs hs':List Asn} {w:World} (hm:Mem c hs w) {E:TypeId} {v:Value} {n:Nat} {ys:List Value} (ht:Take hs (row E 1 v n ys) hs') (hn:ys.length = n):Rd w v 1 (ys.map fun u=>[u]):=
  hm.rdRow ht (flatten_singletons ys).symm (fun r hr=>by obtain ⟨u,_,rfl⟩:=List.mem_map.1 hr;rfl) (by simpa using hn)
theorem tr_rowOpen {c:Cx} {D:List Nat} {sl:Slots} {hs hs':List Asn} {X:Act → World → Prop} {E:TypeId} {sz:Nat} {v:Value} {n:Nat} {xs:List Value} (ht:Take hs (row E sz v n xs) hs') (hn:0 < n)
    (k:∀ g cap cur,v = .slice (some ⟨g,0,none⟩) n cap → n ≤ cap → cap ≤ maxLen → (xs++cur).length = cap * sz → xs.length = n * sz → Tr c D sl (blk g (.cells (xs++cur).toArray E (0,0)) :: hs') X):Tr c D sl hs X:=fun a w hst=>by
  have hm:=hst.mem.take (ht.append _)
  obtain ⟨kk,fp,hnd,⟨f1,f2,rfl,⟨e,hl,h1⟩,h2⟩,hb⟩:=hm
  rcases h1 with ⟨_,h0⟩ | ⟨g,cap,cur,rfl,hg,hcap,hmx,hsz,htake⟩
  · omega
  · have hcur:cur = (xs++cur.toList.drop (n * sz)).toArray:=by
      rw [← htake,List.take_append_drop]
    have hlen:(xs++cur.toList.drop (n * sz)).length = cap * sz:=by rw [← htake,List.take_append_drop];simpa using hsz
    refine k g cap (cur.toList.drop (n * sz)) rfl hcap hmx hlen hl a w (hst.heap ⟨kk,f1++f2,hnd,⟨f1,f2,rfl,⟨?_,?_⟩,h2⟩,hb⟩)
    · rw [e];rfl
    · rw [← hcur];exact hg
theorem Mem.rowShut {c:Cx} {hs:List Asn} {w:World} {E:TypeId} {sz g n cap:Nat} {xs cur:List Value} (hm:Mem c (SL.blk g (.cells (xs++cur).toArray E (0,0)) :: hs) w) (hcap:n ≤ cap) (hmx:cap ≤ maxLen) (hsz:(xs++cur).length = cap * sz) (hl:xs.length = n * sz):Mem c (row E sz (.slice (some ⟨g,0,none⟩) n cap) n xs :: hs) w:=by
  obtain ⟨kk,fp,hnd,⟨f1,f2,rfl,⟨e,hg⟩,h2⟩,hb⟩:=hm
  refine ⟨kk,f1++f2,hnd,⟨f1,f2,rfl,⟨by rw [e];rfl,hl,.inr ⟨g,cap,_,rfl,hg,hcap,hmx,by simpa using hsz,?_⟩⟩,h2⟩,hb⟩
  simp [← hl]
theorem tr_rowShut {c:Cx} {D:List Nat} {sl:Slots} {hs hs':List Asn} {X:Act → World → Prop} {E:TypeId} {sz g n cap:Nat} {xs cur:List Value} (ht:Take hs (blk g (.cells (xs++cur).toArray E (0,0))) hs') (hcap:n ≤ cap) (hmx:cap ≤ maxLen) (hsz:(xs++cur).length = cap * sz) (hl:xs.length = n * sz)
    (k:Tr c D sl (row E sz (.slice (some ⟨g,0,none⟩) n cap) n xs :: hs') X):Tr c D sl hs X:=fun a w hst=>
  k a w (hst.heap (Mem.rowShut (hst.mem.take (ht.append _)) hcap hmx hsz hl))
section
variable {P:Program} {r:Option Nat} {c:Cx} {D:List Nat} {sl:Slots} {hs hs':List Asn} {ops:Array Oper} {Q:Exit → Act → World → Prop} {d:Nat} {ty:TypeId} {pos:String} {af:Array Edge} {rest:List Oper}
theorem append_loc {w w':World} {t ty e:TypeId} {i:TypeInfo} {z:Value} (ht:P.underlying t = some (.slice e)) (hi:P.info? e = some i) (hz:i.zero = some z)
    {v v':Value} {n:Nat} {xs:List Value} (hown:w.ownsRow 0 e i.size v n xs) {a:Addr} {m cp:Nat} {news:List Value} (hl:news.length = m * i.size) (hnews:∀ j u,news[j]? = some u → w.cell? (a.add j) = some u) (h1:∀ u ∈ news,u.oneCell' = true)
    (h63:n + m ≤ maxLen) (hbytes:(n + m) * i.bytes ≤ 140737488355328) (hrun:(Builtin.append_ #[t,t] ty #[v,.slice (some a) m cp]).run P w = .ok v' w'):v'.ownBlock = v.ownBlock ∨ v'.ownBlock = some w.heap.size:=by
  have hsmall:n + m ≤ 9223372036854775807:=by simp only [maxLen] at h63;omega
  rcases hown.2 with ⟨rfl,rfl⟩ | ⟨g,cap,cur,rfl,hbg,hg,hnc,hcm,hcs,htake⟩
  · by_cases hm:m = 0
    · subst hm
      have hn:news = []:=List.eq_nil_of_length_eq_zero (by simpa using hl)
      subst hn
      have:(Builtin.append_ #[t,t] ty #[.slice none 0 0,.slice (some a) 0 cp]).run P w = .ok (.slice none 0 0) w:=by
        simp [Builtin.append_,rk_underlying ht,sizeOf,typeInfo,hi,Builtin.lenOf,Builtin.firstCells,loadCells,loadCellsFrom]
      rw [hrun] at this
      cases this
      exact .inl rfl
    · have hr:=run_append_nil (P:=P) w t ty e i z ht hi hz a m cp news hl hnews (by omega) (by omega) (by have hb:=hbytes;simp only [Nat.zero_add] at hb;omega)
      rw [hrun] at hr
      cases hr
      exact .inr rfl
  · by_cases hroom:n + m ≤ cap
    · have hfit:n * i.size + news.length ≤ cur.size:=by rw [hl,hcs,← Nat.add_mul];exact Nat.mul_le_mul_right _ hroom
      have hr:=run_append_room (P:=P) w t ty e i ht hi g n cap cur hg a m cp news hl hnews h1 hroom hfit
      rw [hrun] at hr
      cases hr
      exact .inl rfl
    · have holds:∀ j u,xs[j]? = some u → w.cell? ((⟨g,0,none⟩:Addr).add j) = some u:=hown.cells (g:=g) rfl
      have hr:=run_append_grow (P:=P) w t ty e i z ht hi hz ⟨g,0,none⟩ n cap xs hown.1 holds a m cp news hl hnews (by omega) (by omega) (growslice_fits (by omega) hbytes)
      rw [hrun] at hr
      cases hr
      exact .inr rfl
theorem tr_append {t e:TypeId} {agg:Bool} {size bytes:Nat} {z:Value} {x y:Operand} {v:Value} {n b o m cp:Nat} {xs news:List Value} [hu:Und P t (.slice e)] [hT:Ty P e agg size] [hZ:Zer P e z] [hB:Byt P e bytes]
    (hx:Is sl x v) (hy:Is sl y (.slice (some ⟨b,o,none⟩) m cp)) (ht:Take hs (row e size v n xs) hs') (hn:Ats c hs b o news) (hl:news.length = m * size) (h1:∀ u ∈ news,u.oneCell' = true) (hz:z.cells.size = size) (hsz:Nat.blt 0 size = true) (hb0:Nat.blt 0 bytes = true)
    (hb:(n + m) * bytes ≤ 140737488355328) (hd:Nat.blt d c.nt = true)
    (k:∀ v',Tr c D ((d,v') :: sl) (row e size v' (n + m) (xs++news) :: hs') (WL P r ops Q rest)) :
    Tr c D sl hs (WL P r ops Q (⟨some d,.call ⟨.builtin .append,#[x,y],#[t,t]⟩,ty,pos,af,none⟩ :: rest)):=fun a w hst=>by
  obtain ⟨de,i,hde,hi,_,hsize⟩:=Ty.parts (P:=P) (t:=e) (agg:=agg) (n:=size)
  have hzero:i.zero = some z:=by have:=hZ.eq;rw [hi] at this;simpa using this
  have hbytes:i.bytes = bytes:=by have:=hB.eq;rw [hi] at this;simpa using this
  have hm0:=hst.mem'
  have hm:=hst.mem.take (ht.append _)
  obtain ⟨kk,fp,hnd,⟨f1,f2,rfl,hrow,h2⟩,hfb⟩:=hm
  have hown:=row_owns hrow
  have hbpos:0 < bytes:=by simpa using hb0
  have hmax:n + m ≤ maxLen:=by
    have:(n + m) * 1 ≤ (n + m) * bytes:=Nat.mul_le_mul_left _ hbpos
    unfold maxLen;omega
  obtain ⟨v',w',hrun,hown',hgr,_⟩:=run_append_own (P:=P) w 0 t ty e i z size bytes hu.eq hi hzero hsize hbytes hz (by simpa using hsz) v n xs hown ⟨b,o,none⟩ m cp news hl
    (fun j u hj=>by rw [addr_add];exact hn.get j u hj w hm0) h1 hmax hb (Nat.zero_le _)
  have hloc:=append_loc (P:=P) (t:=t) (ty:=ty) hu.eq hi hzero (by rw [hsize];exact hown) (a:=⟨b,o,none⟩) (m:=m) (cp:=cp) (by rw [hsize];exact hl) (fun j u hj=>by rw [addr_add];exact hn.get j u hj w hm0) h1 hmax (by rw [hbytes];exact hb) hrun
  refine wl_op rfl ⟨fr_about _ _ _ _ _,?_⟩
  rw [Oper.semAt_eq _ _ _ (by simp)]
  have:(execOp a.eval ⟨some d,.call ⟨.builtin .append,#[x,y],#[t,t]⟩,ty,pos,af,none⟩).run P w = .ok (.value v') w':=by
    simp [execOp,resolve,invoke,builtin,hx a hst.slots,hy a hst.slots,hrun]
  rw [this]
  refine k v' _ _ ((hst.put (by simpa [Nat.blt_eq] using hd) v').heap ?_)
  have hm:Mem c ([row e size v n xs]++(hs'++mks D)) w:=⟨kk,f1++f2,hnd,⟨f1,f2,rfl,hrow,h2⟩,hfb⟩
  have:=Mem.change (Bs:=[row e size v' (n + m) (xs++news)]) (w':=w') hm fun fp hn' hf=>by
    obtain ⟨g1,g2,e1,hr,e2⟩:=hf
    have hfp:fp = v.ownBlock.toList:=by rw [e1,show g2 = [] from e2,hr.1];simp
    refine ⟨⟨hgr.os,hgr.tape,hgr.output,hgr.size,fun q hq hnq=>hgr.block q hq (fun he=>hnq ?_)⟩,v'.ownBlock.toList,?_,⟨_,[],by simp,row_of_owns hown',rfl⟩,fun q hq=>?_⟩
    · rw [hfp,← he];simp
    · cases v'.ownBlock <;> simp
    · have hq':v'.ownBlock = some q:=by simpa [Option.mem_toList] using hq
      rcases hloc with h | h
      · left;rw [hfp,← h,hq'];simp
      · right
        rw [h] at hq'
        cases hq'
        exact Nat.le_refl _
  simpa using this
end
end Go.SL
namespace Go.SL
open Go
def LoopPost {ι:Type} (c:Cx) (D:List Nat) (Φ:ι → Prop) (sI:ι → Slots) (hI:ι → List Asn) (μ:ι → Nat) (i:ι):Act → World → Prop:=fun a w=>∃ j,Φ j ∧ μ j < μ i ∧ St c D (sI j) (hI j) a w
def LoopStart {ι:Type} (c:Cx) (D:List Nat) (Φ:ι → Prop) (sI:ι → Slots) (hI:ι → List Asn):Act → World → Prop:=fun a w=>∃ i,Φ i ∧ St c D (sI i) (hI i) a w
section
variable {P:Program} {r:Option Nat} {c:Cx} {D:List Nat} {sl:Slots} {hs hs':List Asn} {Q:Exit → Act → World → Prop} {ι:Type} {Φ:ι → Prop} {sI:ι → Slots} {hI:ι → List Asn} {μ:ι → Nat}
theorem tr_for {x:Code} (Φ:ι → Prop) (sI:ι → Slots) (hI:ι → List Asn) (μ:ι → Nat) (h0:Tr c D sl hs (LoopStart c D Φ sI hI))
    (round:∀ i,Φ i → Tr c D (sI i) (hI i) (WP P r x (Exit.then (LoopPost c D Φ sI hI μ i) Q))):Tr c D sl hs (WP P r (.loop x) Q):=
  tr_loop Φ sI hI μ h0 round
def Subs (sl:Slots):Slots → Prop
  | []=>True
  | (t,v) :: r=>sget sl t = some v ∧ Subs sl r
theorem Subs.get:∀ {sl':Slots},Subs sl sl' → ∀ t v,sget sl' t = some v → sget sl t = some v
  | [],_,t,v,h=>by cases h
  | (u, x) :: r, ⟨h1, h2⟩, t, v, h => by
    by_cases e:u = t
    · subst e;rw [sget_cons_eq] at h;cases h;exact h1
    · rw [sget_cons_ne e] at h;exact Subs.get h2 t v h
theorem Subs.nil:Subs sl []:=trivial
theorem Subs.cons {t:Nat} {v:Value} {r:Slots} (h:sget sl t = some v) (k:Subs sl r):Subs sl ((t,v) :: r):=⟨h,k⟩
theorem St.weaken {sl':Slots} {hs1 rest:List Asn} {a:Act} {w:World} (h:St c D sl hs a w) (hs':Subs sl sl') (ht:Takes hs hs1 rest):St c D sl' hs1 a w:=by
  refine ⟨?_,h.slots.sub hs'.get,h.size,h.defers⟩
  have h1:=h.mem.takes (ht.append (mks D))
  -- hs1++(rest++mks):forget the rest
  obtain ⟨k,fp,hn,hsat,hb⟩:=h1
  obtain ⟨f1,f2,rfl,s1,s2⟩:=Sats.append_iff.1 hsat
  obtain ⟨g1,g2,rfl,s3,s4⟩:=Sats.append_iff.1 s2
  refine ⟨k,f1++g2,?_,Sats.append_iff.2 ⟨f1,g2,rfl,s1,s4⟩,fun b hb'=>hb b ?_⟩
  · obtain ⟨n1,n2,n3⟩:=List.nodup_append.1 hn
    obtain ⟨_,n5,_⟩:=List.nodup_append.1 n2
    exact List.nodup_append.2 ⟨n1,n5,fun x hx y hy=>n3 x hx y (List.mem_append_right _ hy)⟩
  · rcases List.mem_append.1 hb' with h | h
    · exact List.mem_append_left _ h
    · exact List.mem_append_right _ (List.mem_append_right _ h)
theorem tr_next {i:ι} (j:ι) {rest:List Asn} (hΦ:Φ j) (hμ:μ j < μ i) (hs1:Subs sl (sI j)) (ht:Takes hs (hI j) rest):Tr c D sl hs (LoopPost c D Φ sI hI μ i):=
  fun a w hst=>⟨j,hΦ,hμ,hst.weaken hs1 ht⟩
theorem tr_start (j:ι) {rest:List Asn} (hΦ:Φ j) (hs1:Subs sl (sI j)) (ht:Takes hs (hI j) rest):Tr c D sl hs (LoopStart c D Φ sI hI):=
  fun a w hst=>⟨j,hΦ,hst.weaken hs1 ht⟩
variable {ops:Array Oper} {d:Nat} {dst:Option Tmp} {ty:TypeId} {pos:String} {af:Array Edge} {g:Option (Nat × Bool)} {rest:List Oper}
theorem rk_rangeS {t:TypeId} {x:Operand} {s:ByteArray} [hu:Und P t .string] (hx:Is sl x (.string s)):RunN P c sl hs ⟨dst,.range t x,ty,pos,af,g⟩ (fun b=>.pointer (some ⟨b,0,none⟩)) (.stringIter s 0):=
  ⟨by simp,fun a w ha _=>by simp [execOp,hx a ha,Instr.range,rk_underlying hu.eq]⟩
theorem tr_nextS {x:Operand} {b p:Nat} {s:ByteArray} (hx:Is sl x (.pointer (some ⟨b,0,none⟩))) (ht:Take hs (blk b (.stringIter s p)) hs') (hd:Nat.blt d c.nt = true)
    (kt:p < s.size → Tr c D ((d,.tuple [Value.bool true,.int .i64 p,.int .i32 (Utf8.decode s p).1].toArray) :: sl) (blk b (.stringIter s (p + (Utf8.decode s p).2)) :: hs') (WL P r ops Q rest))
    (kf:¬ p < s.size → Tr c D ((d,.tuple [Value.bool false].toArray) :: sl) (blk b (.stringIter s p) :: hs') (WL P r ops Q rest)) :
    Tr c D sl hs (WL P r ops Q (⟨some d,.next x true,ty,pos,af,none⟩ :: rest)):=fun a w hst=>by
  have hm:=hst.mem.take (ht.append _)
  have hb:w.heap[b]? = some (.stringIter s p):=hm.blk .here
  have hlt:=hp_lt (w:=w) hb
  refine wl_op rfl ⟨fr_about _ _ _ _ _,?_⟩
  rw [Oper.semAt_eq _ _ _ (by simp)]
  by_cases h:p < s.size
  · have:(execOp a.eval ⟨some d,.next x true,ty,pos,af,none⟩).run P w = .ok (.value (.tuple [Value.bool true,.int .i64 p,.int .i32 (Utf8.decode s p).1].toArray)) (setBlock w b (.stringIter s (p + (Utf8.decode s p).2))):=by
      simp [execOp,hx a hst.slots,Instr.next,getObj,setObj,Sem.run,hb,h,goInt,setBlock]
    rw [this]
    exact kt h _ _ ((hst.put (by simpa [Nat.blt_eq] using hd) _).heap (Mem.store hm (Keeps.setBlock w b _) (setBlock_same hlt)))
  · have:(execOp a.eval ⟨some d,.next x true,ty,pos,af,none⟩).run P w = .ok (.value (.tuple [Value.bool false].toArray)) w:=by
      simp [execOp,hx a hst.slots,Instr.next,getObj,Sem.run,hb,h]
    rw [this]
    exact kf h _ _ ((hst.put (by simpa [Nat.blt_eq] using hd) _).heap hm)
structure KeyLaw (kind:TypeDesc) {κ:Type} [DecidableEq κ] (kv:κ → Value):Prop where
  same:∀ a b,Instr.sameNow kind (kv a) (kv b) = some (decide (a = b))
  bits:∀ a,Instr.sameBits 10000 (kv a) (kv a) = true
  flat:∀ (P:Program) (t:TypeId) (e:Bool) (w:World) (a:κ),P.underlying t = some kind → (Instr.checkKey e 10000 t (kv a)).run P w = .ok () w
structure mpOk {κ:Type} (kv:κ → Value) (l:List (κ × Value)) (es:Array MapEntry) (ck:Nat):Prop where
  eq:es.toList.map (fun e=>(e.key,e.val)) = l.map (fun p=>(kv p.1,p.2))
  nd:(es.toList.map (·.born)).Nodup
  lt:∀ x ∈ es.toList,x.born < ck
def aset {κ:Type} [DecidableEq κ] (k:κ) (v:Value):List (κ × Value) → List (κ × Value)
  | []=>[(k,v)]
  | (x,u) :: r=>if k = x then (x,v) :: r else (x,u) :: aset k v r
section
variable {κ:Type} [DecidableEq κ] {kv:κ → Value} {kind:TypeDesc}
end
end
end Go.SL
namespace Go.SL
open Go
def exA {ι:Type} (Φ:ι → Prop) (A:ι → List Asn):Asn where
  sat h fp:=∃ x,Φ x ∧ Sats h (A x) fp
  loc:=fun ⟨x,hx,hs⟩ hb=>⟨x,hx,hs.loc hb⟩
  own:=fun ⟨_,_,hs⟩ b hb=>hs.own b hb
section
variable {P:Program} {r:Option Nat} {c:Cx} {D:List Nat} {sl:Slots} {hs hs':List Asn} {Q:Exit → Act → World → Prop} {ι:Type}
theorem round_any {l:Nat} {f:FuncId} {tmps:Array Value} {asg body:Code} {w:World} {R:Ending → World → Prop} (h:RoundIn (FR none) 0 P l f tmps asg body w R):RoundIn (FR r) 0 P l f tmps asg body w R:=h
variable {ops:Array Oper} {d:Nat} {ty:TypeId} {pos:String} {af:Array Edge} {rest:List Oper}
def recL (rc:Loop) (s:LoopState) (pd:Option Code):Obj:=.loop { rc with state:=s,pending:=pd }
def RoundR (md:List Nat) (w:World) (post:Bool → Asn):Ending → World → Prop:=fun e W'=>∃ b,e = .returned (.bool b) ∧ Keeps md w W' ∧ ∃ fp':List Nat,fp'.Nodup ∧ (post b).sat (hp W') fp' ∧ ∀ x ∈ fp',x ∈ md ∨ w.heap.size ≤ x
def Begins (P:Program) (l:Nat) (body:Code) (R:Ending → World → Prop):Act → World → Prop:=fun a₁ w₁=>∃ w₂,(Instr.beginRound l).run P w₁ = .ok () w₂ ∧ body.wpIn (FR (some l)) 0 P (roundPost P l R) a₁ w₂
theorem tr_begin {l:Nat} {rc:Loop} {body:Code} {R:Ending → World → Prop} {pd:Option Code} (ht:Take hs (blk l (recL rc .ready pd)) hs') (k:Tr c D sl (blk l (recL rc .busy pd) :: hs') (WP P (some l) body (roundPost P l R))):Tr c D sl hs (Begins P l body R):=fun a w hst=>by
  have hm:=hst.mem.take (ht.append _)
  have hb:w.heap[l]? = some (recL rc .ready pd):=hm.blk .here
  refine ⟨w.putObj l (recL rc .busy pd),run_beginRound (r:={ rc with state:=.ready,pending:=pd }) hb rfl,k a _ (hst.heap (Mem.store hm ⟨rfl,rfl,rfl,by simp,fun k _ hn=>World.putObj_heap_other (by simpa using hn)⟩ (World.putObj_heap_same (hp_lt (w:=w) hb))))⟩
theorem round_end {l:Nat} {rc:Loop} {post:Bool → Asn} {s:LoopState} {pd jump:Option Code} (ht:Take hs (blk l (recL rc s pd)) hs') {hs2:List Asn} (ht2:∀ w,Mem c (blk l (recL rc (if jump.isNone then .ready else .done) jump) :: hs') w → ∃ fp:List Nat,fp.Nodup ∧ (post jump.isNone).sat (hp w) fp ∧ ∀ b ∈ fp,c.w0.heap.size ≤ b ∨ b ∈ c.md)
    {a:Act} {w:World} (hst:St c D sl hs a w):∃ v w',(Instr.endRound l jump).run P w = .ok v w' ∧ RoundR c.md c.w0 post (.returned v) w':=by
  have _:=hs2
  have hm:=hst.mem.take (ht.append _)
  have hb:w.heap[l]? = some (recL rc s pd):=hm.blk .here
  have hk:Keeps [l] w (w.putObj l (recL rc (if jump.isNone then .ready else .done) jump)):=⟨rfl,rfl,rfl,by simp,fun k _ hn=>World.putObj_heap_other (by simpa using hn)⟩
  have hm2:=Mem.store hm hk (World.putObj_heap_same (hp_lt (w:=w) hb))
  refine ⟨.bool jump.isNone,_,run_endRound (r:={ rc with state:=s,pending:=pd }) jump hb,jump.isNone,rfl,hm2.keeps,?_⟩
  obtain ⟨fp,h1,h2,h3⟩:=ht2 _ (by have:=hm2;rw [← List.cons_append] at this;exact this.dropTail)
  exact ⟨fp,h1,h2,fun b hb=>(h3 b hb).symm⟩
theorem sat_ex {Φ:ι → Prop} {A:ι → List Asn} (x:ι) (hx:Φ x) {As rest:List Asn} (ht:Takes As (A x) rest) {w:World} (hm:Mem c As w):∃ fp:List Nat,fp.Nodup ∧ (exA Φ A).sat (hp w) fp ∧ ∀ b ∈ fp,c.w0.heap.size ≤ b ∨ b ∈ c.md:=by
  obtain ⟨_,fp,hn,hsat,hb⟩:=hm.takes ht
  obtain ⟨f1,f2,rfl,h1,_⟩:=Sats.append_iff.1 hsat
  exact ⟨f1,(List.nodup_append.1 hn).1,⟨x,hx,h1⟩,fun b hb'=>hb b (List.mem_append_left _ hb')⟩
theorem tr_roundN {l:Nat} {rc:Loop} {post:Bool → Asn} {s:LoopState} {pd:Option Code} {Φ:ι → Prop} {A:ι → List Asn} (x:ι) {rest:List Asn} (hp1:post true = exA Φ A) (ht:Take hs (blk l (recL rc s pd)) hs') (hx:Φ x) (h2:Takes (blk l (recL rc .ready none) :: hs') (A x) rest) :
    Tr c D sl hs (roundPost P l (RoundR c.md c.w0 post) .normal):=fun _ _ hst=>
  round_end (jump:=none) (hs2:=[]) ht (fun w hm=>by show ∃ fp:List Nat,fp.Nodup ∧ (post true).sat (hp w) fp ∧ _;rw [hp1];exact sat_ex x hx h2 hm) hst
def putAll:List (Nat × Value) → Slots → Slots
  | [],sl=>sl
  | (t,v) :: r,sl=>putAll r ((t,v) :: sl)
theorem putAll_ok {nt:Nat}:∀ (ps:List (Nat × Value)) (sl:Slots) (tmps:Array Value),SlotsOk sl ⟨tmps,[]⟩ → tmps.size = nt → (∀ p ∈ ps,p.1 < nt) →
    SlotsOk (putAll ps sl) ⟨ps.foldl (fun t p=>t.setIfInBounds p.1 p.2) tmps,[]⟩ ∧ (ps.foldl (fun (t:Array Value) p=>t.setIfInBounds p.1 p.2) tmps).size = nt
  | [],sl,tmps,h,hn,_=>⟨h,hn⟩
  | (t, v) :: ps, sl, tmps, h, hn, hp => by
    have h1:=h.put (d:=t) (by show t < tmps.size;rw [hn];exact hp (t,v) (by simp)) v
    exact putAll_ok ps ((t,v) :: sl) (tmps.setIfInBounds t v) h1 (by simpa using hn) (fun q hq=>hp q (by simp [hq]))
theorem tr_rangeFunc {g:Operand} {ps:Array Tmp} {asg body:Code} {f:FuncId} {first cap:List Value} (hg:Is sl g (.func (.func f) first.toArray cap.toArray)) [Bod P f]
    {As:Nat → Loop → List Asn} {rest:List Asn} {Φ:Nat → Loop → ι → Prop} {own:Nat → Loop → ι → List Asn} {st:ι → LoopState} {pd:ι → Option Code}
    (ht:∀ l rc,Takes (blk l (recL rc .ready none) :: hs) (As l rc) rest) (hst:∀ x,st x ≠ .busy)
    (hc:∀ l rc,rc.params = ps → rc.assign = asg → rc.body = body → SlotsOk sl ⟨rc.tmps,[]⟩ → rc.tmps.size = c.nt → ∀ w fp,Mem c (blk l (recL rc .ready none) :: hs) w → fp.Nodup → Sats (hp w) (As l rc) fp → (∀ b ∈ fp,c.w0.heap.size ≤ b ∨ b ∈ c.md) →
      Gives P f (first++[Value.func (Fn.yield l) #[] #[]]++cap) w fp (Φ l rc) (fun _=>Value.tuple #[]) (fun x=>blk l (recL rc (st x) (pd x)) :: own l rc x))
    (kn:∀ l rc x b,Φ l rc x → pd x = none → Tr c (b :: D) sl (own l rc x++rest) (Q .normal))
    (kj:∀ l rc x b j,Φ l rc x → pd x = some j → Tr c (b :: D) sl (own l rc x++rest) (WP P none j Q)) :
    Tr c D sl hs (WP P none (.rangeFunc g ps asg body) Q):=fun a w hs0=>by
  refine wpIn_rangeFunc fun fn _=>?_
  let rc:Loop:={ state:=.ready,pending:=none,fn,tmps:=a.tmps,params:=ps,assign:=asg,body,defers:=w.heap.size }
  let l:=w.heap.size + 1
  let w1:=(w.alloc (.deferred (some []))).alloc (.loop rc)
  have hrc:recL rc .ready none = .loop rc:=rfl
  -- the state behind the record
  have hm1:Mem c (blk w.heap.size (.deferred (some [])) :: (hs++mks D)) (w.alloc (.deferred (some []))):=hs0.mem.alloc _
  have hm2:Mem c (blk l (recL rc .ready none) :: blk w.heap.size (.deferred (some [])) :: (hs++mks D)) w1:=by
    have:=hm1.alloc (.loop rc)
    simpa [l,w1,hrc] using this
  -- rearranged: the record and hs ahead,the new mark among the marks
  have hm3:Mem c ((blk l (recL rc .ready none) :: hs)++mks (w.heap.size :: D)) w1:=by
    obtain ⟨k,fp,hn,⟨f1,f2,rfl,h1,⟨f3,f4,rfl,h3,h4⟩⟩,hb⟩:=hm2
    obtain ⟨f5,f6,rfl,h5,h6⟩:=Sats.append_iff.1 h4
    have hperm:(f1++(f3++(f5++f6))).Perm ((f1++f5)++(f3++f6)):=by
      rw [List.append_assoc]
      refine List.Perm.append_left f1 ?_
      rw [← List.append_assoc,← List.append_assoc]
      exact List.perm_append_comm.append_right f6
    refine ⟨k,(f1++f5)++(f3++f6),hperm.nodup_iff.1 hn,Sats.append_iff.2 ⟨f1++f5,f3++f6,rfl,⟨f1,f5,rfl,h1,h5⟩,⟨f3,f6,rfl,h3,h6⟩⟩,fun b hb'=>hb b (hperm.mem_iff.2 hb')⟩
  have htk:=ht l rc
  obtain ⟨k4,fp,hn,hsat,hb⟩:=hm3.takes (htk.append (mks (w.heap.size :: D)))
  obtain ⟨f1,f2,rfl,h1,h2⟩:=Sats.append_iff.1 hsat
  have hcall:=hc l rc rfl rfl rfl hs0.slots hs0.size w1 f1 hm3.dropTail (List.nodup_append.1 hn).1 h1 (fun b hb'=>hb b (List.mem_append_left _ hb'))
  refine ⟨l,[{ target:=.collected w.heap.size,args:=#[] }],w1,{ target:=.fn (.func f) cap.toArray,args:=first.toArray++#[.func (.yield l) #[] #[]] },w1,f,(first++[Value.func (Fn.yield l) #[] #[]]++cap).toArray,w1,run_enterLoop_outer fn a.tmps ps asg body,?_,fun _ _=>trivial,?_,by simp [FR,Fence.wide],?_⟩
  · have:=hg a hs0.slots
    simp only [resolve,rangeCall,Deferred.ofValue,this,Sem.run_bind,Sem.run_pure,Result.andThen_ok]
    simp [Act.eval,l]
  · simp only [invoke]
    rw [rk_callFunc]
    simp
  · refine (calls_wide (r:=none) hcall).mono fun e w' ⟨x,he,hx,hk,fp',hn',hs',hf'⟩=>?_
    subst he
    obtain ⟨g1,g2,rfl,hrec,hown⟩:=hs'
    obtain ⟨rfl,hl⟩:=hrec
    have hl':w'.heap[l]? = some (recL rc (st x) (pd x)):=hl
    refine ⟨pd x,w'.putObj l (recL rc .exhausted (pd x)),run_endLoop (r:={ rc with state:=st x,pending:=pd x }) hl' (hst x),?_⟩
    -- the state behind it all
    obtain ⟨n1,n2,n12⟩:=List.nodup_append.1 hn
    have hlt:∀ b ∈ f2,b < w1.heap.size:=fun b hb'=>let ⟨o,ho⟩:=h2.own b hb';hp_lt ho
    have hm5:Mem c (blk l (recL rc (st x) (pd x)) :: (own l rc x++(rest++mks (w.heap.size :: D)))) w':=by
      refine ⟨?_,(([l]++g2)++f2),?_,?_,?_⟩
      · refine ⟨hk.os.trans k4.os,hk.tape.trans k4.tape,hk.output.trans k4.output,Nat.le_trans k4.size hk.size,fun b hb' hm=>?_⟩
        rw [← k4.block b hb' hm]
        refine hk.block b (Nat.lt_of_lt_of_le hb' k4.size) (fun hf=>?_)
        rcases hb b (List.mem_append_left _ hf) with h | h
        · omega
        · exact hm h
      · refine List.nodup_append.2 ⟨hn',n2,fun x hx y hy e=>?_⟩
        subst e
        rcases hf' x hx with h | h
        · exact n12 x h x hy rfl
        · have:=hlt x hy;omega
      · rw [List.append_assoc]
        exact ⟨[l],g2++f2,rfl,⟨rfl,hl⟩,Sats.append_iff.2 ⟨g2,f2,rfl,hown,h2.loc fun b hb'=>hk.block b (hlt b hb') (fun hf=>n12 b hf b hb' rfl)⟩⟩
      · intro b hb'
        rcases List.mem_append.1 hb' with h | h
        · rcases hf' b h with h | h
          · exact hb b (List.mem_append_left _ h)
          · exact .inl (Nat.le_trans k4.size h)
        · exact hb b (List.mem_append_right _ h)
    have hm6:Mem c ((own l rc x++rest)++mks (w.heap.size :: D)) (w'.putObj l (recL rc .exhausted (pd x))):=by
      have:=(Mem.store hm5 (w':=w'.putObj l (recL rc .exhausted (pd x))) ⟨rfl,rfl,rfl,by simp,fun k _ hn=>World.putObj_heap_other (by simpa using hn)⟩ (World.putObj_heap_same (hp_lt (w:=w') hl'))).dropHead
      rwa [List.append_assoc]
    have hst':St c (w.heap.size :: D) sl (own l rc x++rest) { a with defers:=[{ target:=.collected w.heap.size,args:=#[] }]++a.defers } (w'.putObj l (recL rc .exhausted (pd x))):=
      ⟨hm6,hs0.slots,hs0.size,by simp [hs0.defers,mark]⟩
    cases hj:pd x with
    | none=>rw [hj] at hst';exact kn l rc x w.heap.size hx hj _ _ hst'
    | some j=>rw [hj] at hst';exact kj l rc x w.heap.size j hx hj _ _ hst'
end
end Go.SL
namespace Go.SL
open Go
section
variable {P:Program} {c:Cx} {sl:Slots} {hs:List Asn} {dst:Option Tmp} {ty:TypeId} {pos:String} {af:Array Edge} {g:Option (Nat × Bool)}
theorem elem_of {t e:TypeId} (hu:Und P t (.slice e)):P.elem t = e:=by simp [Program.elem,hu.eq]
theorem slice_und {t e:TypeId} (hu:Und P t (.slice e)):P.underlying t = some (.slice (P.elem t)):=by rw [elem_of hu];exact hu.eq
theorem value_of {i:Sem Value} {v:Value} {w:World} (h:i.run P w = .ok v w):(do let x ← i;pure (Next.value x):Sem Next).run P w = .ok (.value v) w:=by
  rw [Sem.run_bind,h];rfl
theorem rk_slice_h {t e:TypeId} {n:Nat} {agg:Bool} {x y:Operand} {a:Option Addr} {len cap:Nat} {k:IntKind} {h:Int} [hu:Und P t (.slice e)] [Ty P e agg n] (hx:Is sl x (.slice a len cap)) (hy:Is sl y (.int k h)) (h0:0 ≤ h) (h1:h ≤ cap) :
    RunV P c sl hs ⟨dst,.slice t x none (some y) none,ty,pos,af,g⟩ (sliced a 0 h.toNat cap n):=
  ⟨by simp,fun ac w ha _=>by
    have:=run_slice_h (P:=P) w t a len cap (slice_und hu) k h h0 h1
    simp only [execOp,hx ac ha,hy ac ha,Option.map]
    refine value_of ?_
    rw [run_sliceAt_slice _ _ _ _ _ _ (slice_und hu),this,elem_of hu,rk_sizeOf (n:=n) (agg:=agg)]
    rfl⟩
theorem rk_slice_l {t e:TypeId} {n:Nat} {agg:Bool} {x y:Operand} {a:Option Addr} {len cap:Nat} {k:IntKind} {h:Int} [hu:Und P t (.slice e)] [Ty P e agg n] (hx:Is sl x (.slice a len cap)) (hy:Is sl y (.int k h)) (h0:0 ≤ h) (h1:h ≤ len) :
    RunV P c sl hs ⟨dst,.slice t x (some y) none none,ty,pos,af,g⟩ (sliced a h.toNat len cap n):=
  ⟨by simp,fun ac w ha _=>by
    have:=run_slice_l (P:=P) w t a len cap (slice_und hu) k h h0 h1
    simp only [execOp,hx ac ha,hy ac ha,Option.map]
    refine value_of ?_
    rw [run_sliceAt_slice _ _ _ _ _ _ (slice_und hu),this,elem_of hu,rk_sizeOf (n:=n) (agg:=agg)]
    rfl⟩
theorem rk_slice_lh {t e:TypeId} {n:Nat} {agg:Bool} {x y z:Operand} {a:Option Addr} {len cap:Nat} {k k':IntKind} {l h:Int} [hu:Und P t (.slice e)] [Ty P e agg n] (hx:Is sl x (.slice a len cap)) (hy:Is sl y (.int k l)) (hz:Is sl z (.int k' h)) (h0:0 ≤ l) (h1:l ≤ h) (h2:h ≤ cap) :
    RunV P c sl hs ⟨dst,.slice t x (some y) (some z) none,ty,pos,af,g⟩ (sliced a l.toNat h.toNat cap n):=
  ⟨by simp,fun ac w ha _=>by
    have:=run_slice_lh (P:=P) w t a len cap (slice_und hu) k k' l h h0 h1 h2
    simp only [execOp,hx ac ha,hy ac ha,hz ac ha,Option.map]
    refine value_of ?_
    rw [run_sliceAt_slice _ _ _ _ _ _ (slice_und hu),this,elem_of hu,rk_sizeOf (n:=n) (agg:=agg)]
    rfl⟩
theorem rk_loadB {t:TypeId} {n:Nat} {x:Operand} {b o:Nat} {cs vs:List Value} {E:TypeId} {fz:Nat × Nat} {hs':List Asn} [Ty P t true n] (hx:Is sl x (.pointer (some ⟨b,o,none⟩))) (ht:Take hs (SL.blk b (.cells cs.toArray E fz)) hs') (hv:cellsAt cs o n = vs) (hl:vs.length = n) :
    RunV P c sl hs ⟨dst,.load t x,ty,pos,af,g⟩ (.agg vs.toArray):=rk_loadN hx (Ats.blk ht hv) hl
theorem tr_appendB {r:Option Nat} {D:List Nat} {ops:Array Oper} {Q:Exit → Act → World → Prop} {d:Nat} {rest:List Oper} {hs' hs2:List Asn} {t e:TypeId} {agg:Bool} {size bytes:Nat} {z:Value} {x y:Operand} {v:Value} {n b o m cp:Nat} {xs news cs:List Value} {E:TypeId} {fz:Nat × Nat} [Und P t (.slice e)] [Ty P e agg size] [Zer P e z] [Byt P e bytes]
    (hx:Is sl x v) (hy:Is sl y (.slice (some ⟨b,o,none⟩) m cp)) (ht:Take hs (row e size v n xs) hs') (ht2:Take hs (SL.blk b (.cells cs.toArray E fz)) hs2) (hv:cellsAt cs o (m * size) = news) (hl:news.length = m * size) (h1:∀ u ∈ news,u.oneCell' = true) (hz:z.cells.size = size) (hsz:Nat.blt 0 size = true) (hb0:Nat.blt 0 bytes = true)
    (hb:(n + m) * bytes ≤ 140737488355328) (hd:Nat.blt d c.nt = true)
    (k:∀ v',Tr c D ((d,v') :: sl) (row e size v' (n + m) (xs++news) :: hs') (WL P r ops Q rest)) :
    Tr c D sl hs (WL P r ops Q (⟨some d,.call ⟨.builtin .append,#[x,y],#[t,t]⟩,ty,pos,af,none⟩ :: rest)):=
  tr_append hx hy ht (Ats.blk ht2 hv) hl h1 hz hsz hb0 hb hd k
theorem ends1cB {fn:Func} {t:Tmp} {T:TypeId} {b o n:Nat} {cs vs:List Value} {E:TypeId} {fz:Nat × Nat} {hs':List Asn} (h:fn.results = #[.cell t T]) (hT:Ty P T true n) (hp:sget sl t = some (.pointer (some ⟨b,o,none⟩))) (ht:Take hs (SL.blk b (.cells cs.toArray E fz)) hs') (hv:cellsAt cs o n = vs) (hl:vs.length = n):Ends P fn c sl hs (.agg vs.toArray):=
  ends1cN h hp (Ats.blk ht hv) hl
theorem tr_gOn {r:Option Nat} {D:List Nat} {ops:Array Oper} {Q:Exit → Act → World → Prop} {d:Option Tmp} {op:Op} {rest:List Oper} {j gs:Nat} {want:Bool} (hj:((ops[j]?).bind (·.dst)) = some gs) (hq:sget sl gs = some (.bool want))
    (k:Tr c D sl hs (WL P r ops Q (⟨d,op,ty,pos,af,none⟩ :: rest))):Tr c D sl hs (WL P r ops Q (⟨d,op,ty,pos,af,some (j,want)⟩ :: rest)):=fun a w hst=>by
  have h:=k a w hst
  unfold WL at h ⊢
  rw [if_pos (by simp [Region.wanted])] at h
  rw [wanted_gv (o:=⟨d,op,ty,pos,af,some (j,want)⟩) (c0:=true) rfl hj hst.slots (by rw [hq];rfl),if_pos (by simp)]
  exact h
theorem tr_gOff {r:Option Nat} {D:List Nat} {ops:Array Oper} {Q:Exit → Act → World → Prop} {d:Nat} {op:Op} {rest:List Oper} {j gs:Nat} {want:Bool} (hj:((ops[j]?).bind (·.dst)) = some gs) (hq:sget sl gs = some (.bool (!want))) (hd:Nat.blt d c.nt = true)
    (k:Tr c D ((d,undef) :: sl) hs (WL P r ops Q rest)):Tr c D sl hs (WL P r ops Q (⟨some d,op,ty,pos,af,some (j,want)⟩ :: rest)):=fun a w hst=>by
  unfold WL
  rw [wanted_gv (o:=⟨some d,op,ty,pos,af,some (j,want)⟩) (c0:=true) rfl hj hst.slots (by rw [hq];rfl),if_neg (by cases want <;> simp)]
  exact k _ _ (hst.put (by simpa [Nat.blt_eq] using hd) undef)
theorem Rd.sliced {w:World} {a:Option Addr} {len cap sz:Nat} {xs:List (List Value)} (h:Rd w (.slice a len cap) sz xs) {l m:Nat} (hl:l ≤ m) (hm:m ≤ len):Rd w (Go.sliced a l m cap sz) sz ((xs.take m).drop l):=by
  obtain ⟨a',cap',b,o,e,h1,h2,h3,h4⟩:=h
  cases e
  have e:((xs.take m).drop l).length = m - l:=by simp;omega
  by_cases hc:cap = l
  · refine ⟨a,cap - l,b,o,?_,by omega,by omega,fun hn=>?_,fun i r hr=>?_⟩
    · simp [Go.sliced,hc,e]
    · exact absurd (List.eq_nil_of_length_eq_zero (by omega)) hn
    · have:=(List.getElem?_eq_some_iff.1 hr).1;omega
  · refine ⟨a.map (·.add (l * sz)),cap - l,b,o + l * sz,?_,by omega,by omega,fun hn=>?_,fun i r hr=>?_⟩
    · simp [Go.sliced,hc,e]
    · have hx:xs ≠ []:=by intro e;subst e;simp at hn
      rw [h3 hx]
      by_cases e0:l * sz = 0
      · simp [Addr.add,e0]
      · simp [Addr.add,e0]
    · rw [List.getElem?_drop,List.getElem?_take] at hr
      split at hr
      · obtain ⟨q1,q2⟩:=h4 _ _ hr
        refine ⟨q1,fun j u hu=>?_⟩
        have:=q2 j u hu
        rw [show o + l * sz + i * sz + j = o + (l + i) * sz + j by rw [Nat.add_mul];omega]
        exact this
      · simp at hr
end
end Go.SL
namespace Go.Proofs
open Go Go.SL
instance :Mix Tryd.prog:=⟨by kernel_rfl⟩
instance :Ty Tryd.prog 3 false 1:=⟨by kernel_rfl⟩
instance :Und Tryd.prog 3 (.int .i64):=⟨by kernel_rfl⟩
instance :Zer Tryd.prog 3 (.int .i64 0):=⟨by kernel_rfl⟩
instance :Byt Tryd.prog 3 8:=⟨by kernel_rfl⟩
instance :Ty Tryd.prog 4 false 1:=⟨by kernel_rfl⟩
instance :Und Tryd.prog 4 (.bool):=⟨by kernel_rfl⟩
instance :Ty Tryd.prog 5 false 1:=⟨by kernel_rfl⟩
instance :Und Tryd.prog 5 (.int .u8):=⟨by kernel_rfl⟩
instance :Zer Tryd.prog 5 (.int .u8 0):=⟨by kernel_rfl⟩
instance :Byt Tryd.prog 5 1:=⟨by kernel_rfl⟩
instance :Ty Tryd.prog 9 false 1:=⟨by kernel_rfl⟩
instance :Und Tryd.prog 9 (.string):=⟨by kernel_rfl⟩
instance :Ty Tryd.prog 23 true 2:=⟨by kernel_rfl⟩
instance :Zer Tryd.prog 23 (.agg #[.int .i64 0,.int .i64 0]):=⟨by kernel_rfl⟩
instance :Bld Tryd.prog 23 [(0,1),(1,1)] [.int .i64 0,.int .i64 0]:=⟨by kernel_rfl⟩
instance :FOff Tryd.prog 23 0 0:=⟨by kernel_rfl⟩
instance :FOff Tryd.prog 23 1 1:=⟨by kernel_rfl⟩
instance :Ty Tryd.prog 25 true 5:=⟨by kernel_rfl⟩
instance :Zer Tryd.prog 25 (.agg #[.int .i64 0,.int .i64 0,.int .i64 0,.int .i64 0,.string ⟨#[]⟩]):=⟨by kernel_rfl⟩
instance :FOff Tryd.prog 25 0 0:=⟨by kernel_rfl⟩
instance :FOff Tryd.prog 25 1 2:=⟨by kernel_rfl⟩
instance :FOff Tryd.prog 25 2 3:=⟨by kernel_rfl⟩
instance :FOff Tryd.prog 25 3 4:=⟨by kernel_rfl⟩
instance :Ty Tryd.prog 26 true 2:=⟨by kernel_rfl⟩
instance :Und Tryd.prog 26 (.array 2 5):=⟨by kernel_rfl⟩
instance :Bld Tryd.prog 26 [(0,1),(1,1)] [.int .u8 0,.int .u8 0]:=⟨by kernel_rfl⟩
instance :Und Tryd.prog 28 (.slice 25):=⟨by kernel_rfl⟩
instance :Ty Tryd.prog 31 false 1:=⟨by kernel_rfl⟩
instance :Und Tryd.prog 31 (.slice 5):=⟨by kernel_rfl⟩
instance :Ty Tryd.prog 32 false 1:=⟨by kernel_rfl⟩
instance :Zer Tryd.prog 32 (.int .i64 0):=⟨by kernel_rfl⟩
instance :Ty Tryd.prog 35 true 10:=⟨by kernel_rfl⟩
instance :Und Tryd.prog 35 (.array 10 5):=⟨by kernel_rfl⟩
instance :Zer Tryd.prog 35 (.agg #[.int .u8 0,.int .u8 0,.int .u8 0,.int .u8 0,.int .u8 0,.int .u8 0,.int .u8 0,.int .u8 0,.int .u8 0,.int .u8 0]):=⟨by kernel_rfl⟩
instance :Bld Tryd.prog 35 [(0,1),(1,1),(2,1),(3,1),(4,1),(5,1),(6,1),(7,1),(8,1),(9,1)] [.int .u8 0,.int .u8 0,.int .u8 0,.int .u8 0,.int .u8 0,.int .u8 0,.int .u8 0,.int .u8 0,.int .u8 0,.int .u8 0]:=⟨by kernel_rfl⟩
instance :Ty Tryd.prog 37 true 12:=⟨by kernel_rfl⟩
instance :Zer Tryd.prog 37 (.agg #[.int .i64 0,.int .i64 0,.int .u8 0,.int .u8 0,.int .u8 0,.int .u8 0,.int .u8 0,.int .u8 0,.int .u8 0,.int .u8 0,.int .u8 0,.int .u8 0]):=⟨by kernel_rfl⟩
instance :Byt Tryd.prog 37 32:=⟨by kernel_rfl⟩
instance :Bld Tryd.prog 37 [(0,1),(1,1),(2,10)] [.int .i64 0,.int .i64 0,.int .u8 0,.int .u8 0,.int .u8 0,.int .u8 0,.int .u8 0,.int .u8 0,.int .u8 0,.int .u8 0,.int .u8 0,.int .u8 0]:=⟨by kernel_rfl⟩
instance :FOff Tryd.prog 37 0 0:=⟨by kernel_rfl⟩
instance :FOff Tryd.prog 37 1 1:=⟨by kernel_rfl⟩
instance :FOff Tryd.prog 37 2 2:=⟨by kernel_rfl⟩
instance :Ty Tryd.prog 38 true 16:=⟨by kernel_rfl⟩
instance :Und Tryd.prog 38 (.array 16 5):=⟨by kernel_rfl⟩
instance :Zer Tryd.prog 38 (.agg #[.int .u8 0,.int .u8 0,.int .u8 0,.int .u8 0,.int .u8 0,.int .u8 0,.int .u8 0,.int .u8 0,.int .u8 0,.int .u8 0,.int .u8 0,.int .u8 0,.int .u8 0,.int .u8 0,.int .u8 0,.int .u8 0]):=⟨by kernel_rfl⟩
instance :Ty Tryd.prog 41 false 1:=⟨by kernel_rfl⟩
instance :Und Tryd.prog 41 (.slice 37):=⟨by kernel_rfl⟩
instance :Zer Tryd.prog 41 (.slice none 0 0):=⟨by kernel_rfl⟩
instance :Ty Tryd.prog 42 false 1:=⟨by kernel_rfl⟩
instance :Und Tryd.prog 42 (.slice 23):=⟨by kernel_rfl⟩
instance :Zer Tryd.prog 42 (.slice none 0 0):=⟨by kernel_rfl⟩
instance :Und Tryd.prog 45 (.slice 3):=⟨by kernel_rfl⟩
instance :Ty Tryd.prog 49 true 5:=⟨by kernel_rfl⟩
instance :Zer Tryd.prog 49 (.agg #[.int .i64 0,.int .i64 0,.int .i64 0,.int .i64 0,.string ⟨#[]⟩]):=⟨by kernel_rfl⟩
instance :Bld Tryd.prog 49 [(0,2),(2,1),(3,1),(4,1)] [.int .i64 0,.int .i64 0,.int .i64 0,.int .i64 0,.string ⟨#[]⟩]:=⟨by kernel_rfl⟩
instance :FOff Tryd.prog 49 0 0:=⟨by kernel_rfl⟩
instance :FOff Tryd.prog 49 1 2:=⟨by kernel_rfl⟩
instance :FOff Tryd.prog 49 2 3:=⟨by kernel_rfl⟩
instance :FOff Tryd.prog 49 3 4:=⟨by kernel_rfl⟩
instance :Ty Tryd.prog 50 true 8:=⟨by kernel_rfl⟩
instance :Und Tryd.prog 50 (.array 8 9):=⟨by kernel_rfl⟩
instance :Zer Tryd.prog 50 (.agg #[.string ⟨#[]⟩,.string ⟨#[]⟩,.string ⟨#[]⟩,.string ⟨#[]⟩,.string ⟨#[]⟩,.string ⟨#[]⟩,.string ⟨#[]⟩,.string ⟨#[]⟩]):=⟨by kernel_rfl⟩
instance :Bld Tryd.prog 50 [(0,1),(1,1),(2,1),(3,1),(4,1),(5,1),(6,1),(7,1)] [.string ⟨#[]⟩,.string ⟨#[]⟩,.string ⟨#[]⟩,.string ⟨#[]⟩,.string ⟨#[]⟩,.string ⟨#[]⟩,.string ⟨#[]⟩,.string ⟨#[]⟩]:=⟨by kernel_rfl⟩
instance :Und Tryd.prog 53 (.slice 49):=⟨by kernel_rfl⟩
instance :FOff Tryd.prog 59 0 0:=⟨by kernel_rfl⟩
instance :FOff Tryd.prog 59 1 1:=⟨by kernel_rfl⟩
instance :Ty Tryd.prog 74 true 4:=⟨by kernel_rfl⟩
instance :Zer Tryd.prog 74 (.agg #[.int .i64 0,.int .i64 0,.int .i64 0,.int .i64 0]):=⟨by kernel_rfl⟩
instance :Bld Tryd.prog 74 [(0,1),(1,1),(2,1),(3,1)] [.int .i64 0,.int .i64 0,.int .i64 0,.int .i64 0]:=⟨by kernel_rfl⟩
instance :FOff Tryd.prog 74 0 0:=⟨by kernel_rfl⟩
instance :FOff Tryd.prog 74 1 1:=⟨by kernel_rfl⟩
instance :FOff Tryd.prog 74 2 2:=⟨by kernel_rfl⟩
instance :FOff Tryd.prog 74 3 3:=⟨by kernel_rfl⟩
instance :Ty Tryd.prog 77 true 2:=⟨by kernel_rfl⟩
instance :Bld Tryd.prog 77 [(0,1),(1,1)] [.int .i64 0,.bool false]:=⟨by kernel_rfl⟩
instance :FOff Tryd.prog 77 0 0:=⟨by kernel_rfl⟩
instance :FOff Tryd.prog 77 1 1:=⟨by kernel_rfl⟩
instance :Ty Tryd.prog 86 true 7:=⟨by kernel_rfl⟩
instance :Zer Tryd.prog 86 (.agg #[.int .i64 0,.bool false,.int .i64 0,.int .i64 0,.int .i64 0,.int .i64 0,.int .i64 0]):=⟨by kernel_rfl⟩
instance :Byt Tryd.prog 86 56:=⟨by kernel_rfl⟩
instance :Bld Tryd.prog 86 [(0,2),(2,4),(6,1)] [.int .i64 0,.bool false,.int .i64 0,.int .i64 0,.int .i64 0,.int .i64 0,.int .i64 0]:=⟨by kernel_rfl⟩
instance :FOff Tryd.prog 86 0 0:=⟨by kernel_rfl⟩
instance :FOff Tryd.prog 86 1 2:=⟨by kernel_rfl⟩
instance :FOff Tryd.prog 86 2 6:=⟨by kernel_rfl⟩
instance :Und Tryd.prog 87 (.slice 86):=⟨by kernel_rfl⟩
instance :Ty Tryd.prog 132 false 1:=⟨by kernel_rfl⟩
instance :Und Tryd.prog 132 (.slice 135):=⟨by kernel_rfl⟩
instance :Ty Tryd.prog 135 true 8:=⟨by kernel_rfl⟩
instance :Zer Tryd.prog 135 (.agg #[.int .i64 0,.bool false,.int .i64 0,.int .i64 0,.int .i64 0,.int .i64 0,.int .i64 0,.int .i64 0]):=⟨by kernel_rfl⟩
instance :Byt Tryd.prog 135 64:=⟨by kernel_rfl⟩
instance :Bld Tryd.prog 135 [(0,7),(7,1)] [.int .i64 0,.bool false,.int .i64 0,.int .i64 0,.int .i64 0,.int .i64 0,.int .i64 0,.int .i64 0]:=⟨by kernel_rfl⟩
instance :FOff Tryd.prog 135 0 0:=⟨by kernel_rfl⟩
instance :FOff Tryd.prog 135 1 7:=⟨by kernel_rfl⟩
instance :Ty Tryd.prog 146 false 1:=⟨by kernel_rfl⟩
instance :Ty Tryd.prog 148 true 1:=⟨by kernel_rfl⟩
instance :Zer Tryd.prog 148 (.agg #[.nilFunc]):=⟨by kernel_rfl⟩
instance :Bld Tryd.prog 148 [(0,1)] [.nilFunc]:=⟨by kernel_rfl⟩
instance :FOff Tryd.prog 148 0 0:=⟨by kernel_rfl⟩
instance :Ty Tryd.prog 149 true 4:=⟨by kernel_rfl⟩
instance :Und Tryd.prog 149 (.array 4 148):=⟨by kernel_rfl⟩
instance :Zer Tryd.prog 149 (.agg #[.nilFunc,.nilFunc,.nilFunc,.nilFunc]):=⟨by kernel_rfl⟩
instance :Bld Tryd.prog 149 [(0,1),(1,1),(2,1),(3,1)] [.nilFunc,.nilFunc,.nilFunc,.nilFunc]:=⟨by kernel_rfl⟩
instance :Und Tryd.prog 159 (.slice 32):=⟨by kernel_rfl⟩
instance :Und Tryd.prog 172 (.array 3 3):=⟨by kernel_rfl⟩
instance :Leaf Tryd.prog 26 [5,5]:=⟨by kernel_rfl,by kernel_rfl,by kernel_rfl⟩
instance :Leaf Tryd.prog 38 [5,5,5,5,5,5,5,5,5,5,5,5,5,5,5,5]:=⟨by kernel_rfl,by kernel_rfl,by kernel_rfl⟩
instance :Leaf Tryd.prog 86 [3,4,3,3,3,3,3]:=⟨by kernel_rfl,by kernel_rfl,by kernel_rfl⟩
instance :Bod Tryd.prog 5:=⟨by kernel_rfl⟩
instance :Bod Tryd.prog 6:=⟨by kernel_rfl⟩
instance :Bod Tryd.prog 7:=⟨by kernel_rfl⟩
instance :Bod Tryd.prog 8:=⟨by kernel_rfl⟩
instance :Bod Tryd.prog 9:=⟨by kernel_rfl⟩
instance :Bod Tryd.prog 10:=⟨by kernel_rfl⟩
instance :Bod Tryd.prog 11:=⟨by kernel_rfl⟩
instance :Bod Tryd.prog 12:=⟨by kernel_rfl⟩
instance :Bod Tryd.prog 13:=⟨by kernel_rfl⟩
instance :Bod Tryd.prog 22:=⟨by kernel_rfl⟩
instance :Bod Tryd.prog 25:=⟨by kernel_rfl⟩
instance :Bod Tryd.prog 26:=⟨by kernel_rfl⟩
instance :Bod Tryd.prog 27:=⟨by kernel_rfl⟩
instance :Bod Tryd.prog 28:=⟨by kernel_rfl⟩
instance :Bod Tryd.prog 29:=⟨by kernel_rfl⟩
instance :Bod Tryd.prog 30:=⟨by kernel_rfl⟩
instance :Bod Tryd.prog 31:=⟨by kernel_rfl⟩
instance :Bod Tryd.prog 32:=⟨by kernel_rfl⟩
instance :Bod Tryd.prog 33:=⟨by kernel_rfl⟩
instance :Bod Tryd.prog 34:=⟨by kernel_rfl⟩
instance :Bod Tryd.prog 35:=⟨by kernel_rfl⟩
instance :Bod Tryd.prog 36:=⟨by kernel_rfl⟩
instance :Bod Tryd.prog 37:=⟨by kernel_rfl⟩
instance :Bod Tryd.prog 38:=⟨by kernel_rfl⟩
instance :Bod Tryd.prog 47:=⟨by kernel_rfl⟩
instance :Bod Tryd.prog 48:=⟨by kernel_rfl⟩
instance :Bod Tryd.prog 49:=⟨by kernel_rfl⟩
instance :Bod Tryd.prog 50:=⟨by kernel_rfl⟩
instance :Bod Tryd.prog 51:=⟨by kernel_rfl⟩
instance :Bod Tryd.prog 52:=⟨by kernel_rfl⟩
instance :Bod Tryd.prog 53:=⟨by kernel_rfl⟩
instance :Bod Tryd.prog 54:=⟨by kernel_rfl⟩
instance :Bod Tryd.prog 55:=⟨by kernel_rfl⟩
instance :Bod Tryd.prog 56:=⟨by kernel_rfl⟩
instance :Bod Tryd.prog 57:=⟨by kernel_rfl⟩
instance :Bod Tryd.prog 58:=⟨by kernel_rfl⟩
instance :Bod Tryd.prog 59:=⟨by kernel_rfl⟩
instance :Bod Tryd.prog 60:=⟨by kernel_rfl⟩
instance :Bod Tryd.prog 61:=⟨by kernel_rfl⟩
instance :Bod Tryd.prog 62:=⟨by kernel_rfl⟩
instance :Bod Tryd.prog 63:=⟨by kernel_rfl⟩
instance :Bod Tryd.prog 64:=⟨by kernel_rfl⟩
instance :Bod Tryd.prog 65:=⟨by kernel_rfl⟩
instance :Bod Tryd.prog 66:=⟨by kernel_rfl⟩
instance :Bod Tryd.prog 67:=⟨by kernel_rfl⟩
instance :Bod Tryd.prog 68:=⟨by kernel_rfl⟩
instance :Bod Tryd.prog 69:=⟨by kernel_rfl⟩
instance :Bod Tryd.prog 70:=⟨by kernel_rfl⟩
instance :Bod Tryd.prog 71:=⟨by kernel_rfl⟩
instance :Bod Tryd.prog 72:=⟨by kernel_rfl⟩
instance :Bod Tryd.prog 73:=⟨by kernel_rfl⟩
instance :Bod Tryd.prog 83:=⟨by kernel_rfl⟩
instance :Bod Tryd.prog 84:=⟨by kernel_rfl⟩
instance :Bod Tryd.prog 85:=⟨by kernel_rfl⟩
instance :Bod Tryd.prog 86:=⟨by kernel_rfl⟩
instance :Bod Tryd.prog 87:=⟨by kernel_rfl⟩
instance :Bod Tryd.prog 88:=⟨by kernel_rfl⟩
instance :Bod Tryd.prog 89:=⟨by kernel_rfl⟩
instance :Bod Tryd.prog 90:=⟨by kernel_rfl⟩
instance :Bod Tryd.prog 91:=⟨by kernel_rfl⟩
instance :Bod Tryd.prog 92:=⟨by kernel_rfl⟩
instance :Bod Tryd.prog 93:=⟨by kernel_rfl⟩
instance :Bod Tryd.prog 94:=⟨by kernel_rfl⟩
instance :Bod Tryd.prog 95:=⟨by kernel_rfl⟩
instance :Bod Tryd.prog 96:=⟨by kernel_rfl⟩
instance :Bod Tryd.prog 104:=⟨by kernel_rfl⟩
instance :Bod Tryd.prog 105:=⟨by kernel_rfl⟩
instance :Bod Tryd.prog 109:=⟨by kernel_rfl⟩
end Go.Proofs
namespace Go.Proofs.A1
def sFix:ByteArray:=⟨#[102,105,120,101,100]⟩
def sFol:ByteArray:=⟨#[102,111,108,108,111,119,105,110,103]⟩
def sMan:ByteArray:=⟨#[109,97,110,117,97,108]⟩
def whenF (h:Bool) (e:Int):Int:=bif h then e else 0
theorem whenF_zero {h:Bool} {e:Int} (he:e ≠ 0):whenF h e = 0 ↔ h = false:=by cases h <;> simp [whenF,he]
def withinF (n l m:Int):Int:=whenF (decide (n < l) || decide (m < n)) 3
theorem withinF_zero {n l m:Int}:withinF n l m = 0 ↔ l ≤ n ∧ n ≤ m:=by
  unfold withinF
  rw [whenF_zero (by decide)]
  simp
def firstF:List Int → Int
  | []=>0
  | e :: r=>if e ≠ 0 then e else firstF r
theorem firstF_zero:∀ {l:List Int},firstF l = 0 ↔ ∀ e ∈ l,e = 0
  | []=>by simp [firstF]
  | e :: r => by
    unfold firstF
    by_cases h:e = 0
    · simp [h,firstF_zero (l:=r)]
    · simp [h]
theorem firstF_at {es:List Int} {k:Nat} (h:k < es.length):firstF (es.drop k) = if es[k] ≠ 0 then es[k] else firstF (es.drop (k + 1)):=by
  rw [List.drop_eq_getElem_cons h];rfl
def firstE (f:Nat → Int):Nat → Nat → Int
  | _,0=>0
  | k,n + 1=>if f k ≠ 0 then f k else firstE f (k + 1) n
def errE (f:Nat → Int) (n:Nat):Int:=firstE f 0 n
theorem firstE_ok {f:Nat → Int}:∀ {n k:Nat},firstE f k n = 0 ↔ ∀ i,k ≤ i → i < k + n → f i = 0
  | 0,k=>by simp only [firstE,true_iff];intro i h1 h2;omega
  | n + 1, k => by
    unfold firstE
    by_cases h:f k = 0
    · rw [if_neg (by simpa using h),firstE_ok]
      constructor
      · intro g i h1 h2
        by_cases e:i = k
        · rw [e];exact h
        · exact g i (by omega) (by omega)
      · intro g i h1 h2;exact g i (by omega) (by omega)
    · rw [if_pos h]
      constructor
      · intro e;exact absurd e h
      · intro g;exact absurd (g k (Nat.le_refl _) (by omega)) h
theorem errE_ok {f:Nat → Int} {n:Nat}:errE f n = 0 ↔ ∀ i,i < n → f i = 0:=by
  unfold errE
  rw [firstE_ok]
  constructor
  · intro g i h;exact g i (Nat.zero_le _) (by omega)
  · intro g i _ h;exact g i (by omega)
theorem firstE_bad {f:Nat → Int}:∀ {n k j:Nat},(∀ i,k ≤ i → i < j → f i = 0) → k ≤ j → j < k + n → f j ≠ 0 → firstE f k n = f j
  | 0,k,j,_,h1,h2,_=>by omega
  | n + 1, k, j, h, h1, h2, h3 => by
    unfold firstE
    by_cases e:k = j
    · subst e;rw [if_pos h3]
    · rw [if_neg (by simpa using h k (Nat.le_refl _) (by omega))]
      exact firstE_bad (fun i h4 h5=>h i (by omega) h5) (by omega) (by omega) h3
theorem errE_bad {f:Nat → Int} {n j:Nat} (h:∀ i,i < j → f i = 0) (hj:j < n) (hn:f j ≠ 0):errE f n = f j:=
  firstE_bad (fun i _ h2=>h i h2) (Nat.zero_le _) (by omega) hn
def bt (s:ByteArray) (i:Nat):Int:=((s.data.toList[i]?.getD 0).toNat:Nat)
def isL (c:Int):Bool:=(decide (65 ≤ c) && decide (c ≤ 90)) || (decide (97 ≤ c) && decide (c ≤ 122))
def isD (c:Int):Bool:=decide (48 ≤ c) && decide (c ≤ 57)
def okB (c:Int):Bool:=isL c || isD c || decide (c = 95)
def okF (s:ByteArray) (k:Nat):Bool:=(List.range' k (s.size - k)).all fun i=>okB (bt s i)
def nameF (s:ByteArray):Bool:=decide (0 < s.size) && decide (s.size ≤ 24) && isL (bt s 0) && okF s 1
structure En where
  nm:ByteArray
  mt:ByteArray
  kd:ByteArray
  tm:Int
  ln:Int
  ov:Int
def En.zero:En:=⟨⟨#[]⟩,⟨#[]⟩,⟨#[]⟩,0,0,0⟩
def nth (es:List En) (k:Nat):En:=es.getD k En.zero
structure EnOk (x:En):Prop where
  nm:nameF x.nm = true
  mt:nameF x.mt = true
  kd:x.kd = sFix ∨ x.kd = sFol ∨ x.kd = sMan
  tm:0 ≤ x.tm ∧ x.tm ≤ 10000000
  fol:x.kd = sFol → x.tm = 0
  ln:1 ≤ x.ln ∧ x.ln ≤ 1000000
  ov:0 ≤ x.ov ∧ x.ov ≤ 250
  lt:x.ov < x.ln
def frm (kd:ByteArray) (t j:Int):Int:=if kd = sFol then j else if kd = sMan then max t j else t
def jn (es:List En):Nat → Int
  | 0=>0
  | k + 1=>frm (nth es k).kd (nth es k).tm (jn es k) + (nth es k).ln - (nth es k).ov
def fr (es:List En) (k:Nat):Int:=frm (nth es k).kd (nth es k).tm (jn es k)
def to (es:List En) (k:Nat):Int:=fr es k + (nth es k).ln
structure EsOk (es:List En):Prop where
  ok:∀ k,k < es.length → EnOk (nth es k)
  few:es.length ≤ 24
end Go.Proofs.A1
