/- Parts of the proof: GkRow GkLoop GkRange GkSlice. -/
import Derived.Test.YtpamkookgkffgaaGreatDoorTM03
import Derived.Laws.AppendOwn
import Derived.Laws.RangeAny
import Derived.Laws.Slices
set_option linter.unusedSectionVars false
set_option linter.unusedVariables false
set_option linter.unusedSimpArgs false
namespace Go.SL
open Go
def Rd (w:World) (v:Value) (sz:Nat) (xs:List (List Value)):Prop:=
  ∃ a cap b o,v = .slice a xs.length cap ∧ xs.length ≤ cap ∧ cap ≤ maxLen ∧ (xs ≠ [] → a = some ⟨b,o,none⟩) ∧ ∀ i r,xs[i]? = some r → r.length = sz ∧ ∀ j u,r[j]? = some u → w.cell? ⟨b,o + i * sz + j,none⟩ = some u
theorem Rd.keeps {w w':World} {v:Value} {sz:Nat} {xs:List (List Value)} (h:Rd w v sz xs) (hk:Keeps [] w w'):Rd w' v sz xs:=by
  obtain ⟨a,cap,b,o,h1,h2,h2',h3,h4⟩:=h
  refine ⟨a,cap,b,o,h1,h2,h2',h3,fun i r hr=>⟨(h4 i r hr).1,fun j u hu=>?_⟩⟩
  have:=(h4 i r hr).2 j u hu
  have hb:=World.block_lt_of_cell? w _ this
  rw [← this]
  simp only [World.cell?]
  rw [hk.block b hb (by simp)]
theorem Rd.nil (w:World) (sz:Nat):Rd w (.slice none 0 0) sz []:=⟨none,0,0,0,rfl,Nat.le_refl _,by unfold maxLen;omega,fun h=>absurd rfl h,fun i r h=>by simp at h⟩
theorem rd1 {w:World} {b o i:Nat} {xs:List (List Value)} {u:Value} (h:∀ i r,xs[i]? = some r → r.length = 1 ∧ ∀ j u,r[j]? = some u → w.cell? ⟨b,o + i * 1 + j,none⟩ = some u) (hr:xs[i]? = some [u]):w.cell? ⟨b,o + i * 1,none⟩ = some u:=(h i _ hr).2 0 u rfl
theorem Mem.rdBlk {c:Cx} {hs hs':List Asn} {w:World} (hm:Mem c hs w) {b:Nat} {cs:List Value} {E:TypeId} {fz:Nat × Nat} (ht:Take hs (SL.blk b (.cells cs.toArray E fz)) hs') {n:Nat} (hn:cs.length = n) (hle:Nat.ble n 1000 = true):Rd w (.slice (some ⟨b,0,none⟩) n n) 1 (cs.map fun v=>[v]):=by
  subst hn
  have hle':cs.length ≤ 1000:=by simpa using hle
  refine ⟨_,cs.length,b,0,by simp,by simp,by unfold maxLen;omega,fun _=>rfl,fun i r hr=>?_⟩
  rw [List.getElem?_map,Option.map_eq_some_iff] at hr
  obtain ⟨v,hv,rfl⟩:=hr
  refine ⟨rfl,fun j u hu=>?_⟩
  cases j with
  | zero =>
    simp only [List.getElem?_cons_zero,Option.some.injEq] at hu
    subst hu
    rw [cell_of_block (hm.blk ht)]
    simpa using hv
  | succ j=>simp at hu
def row (E:TypeId) (sz:Nat) (v:Value) (n:Nat) (xs:List Value):Asn where
  sat h fp:=fp = v.ownBlock.toList ∧ xs.length = n * sz ∧ ((v = .slice none 0 0 ∧ n = 0) ∨
    ∃ g cap cur,v = .slice (some ⟨g,0,none⟩) n cap ∧ h g = some (.cells cur E (0,0)) ∧ n ≤ cap ∧ cap ≤ maxLen ∧ cur.size = cap * sz ∧ cur.toList.take (n * sz) = xs)
  loc:=by
    rintro h h' fp ⟨e,hl,h1⟩ hb
    refine ⟨e,hl,h1.imp id ?_⟩
    rintro ⟨g,cap,cur,rfl,hg,r⟩
    exact ⟨g,cap,cur,rfl,by rw [hb g (by rw [e];simp [Value.ownBlock])];exact hg,r⟩
  own:=by
    rintro h fp ⟨e,hl,h1⟩ b hb
    rcases h1 with ⟨rfl,_⟩ | ⟨g,cap,cur,rfl,hg,_⟩
    · rw [e] at hb;simp [Value.ownBlock] at hb
    · rw [e] at hb;simp [Value.ownBlock] at hb;subst hb;exact ⟨_,hg⟩
theorem row_owns {w:World} {E:TypeId} {sz:Nat} {v:Value} {n:Nat} {xs:List Value} {fp:List Nat} (h:(row E sz v n xs).sat (hp w) fp):w.ownsRow 0 E sz v n xs:=by
  obtain ⟨_,hl,h1⟩:=h
  exact ⟨hl,h1.imp id fun ⟨g,cap,cur,e,hg,r⟩=>⟨g,cap,cur,e,Nat.zero_le _,hg,r⟩⟩
theorem row_of_owns {w:World} {E:TypeId} {sz:Nat} {v:Value} {n:Nat} {xs:List Value} (h:w.ownsRow 0 E sz v n xs):(row E sz v n xs).sat (hp w) v.ownBlock.toList:=by
  obtain ⟨hl,h1⟩:=h
  exact ⟨rfl,hl,h1.imp id fun ⟨g,cap,cur,e,_,hg,r⟩=>⟨g,cap,cur,e,hg,r⟩⟩
theorem Mem.rowNil {c:Cx} {hs:List Asn} {w:World} (hm:Mem c hs w) (E:TypeId) (sz:Nat):Mem c (row E sz (.slice none 0 0) 0 [] :: hs) w:=
  Mem.change (As:=[]) (Bs:=[row E sz (.slice none 0 0) 0 []]) hm fun fp _ hf=>by
    rw [show fp = [] from hf]
    exact ⟨.refl _ _,[],List.nodup_nil,⟨[],[],rfl,⟨rfl,by simp,.inl ⟨rfl,rfl⟩⟩,rfl⟩,by simp⟩
theorem tr_rowNil {c:Cx} {D:List Nat} {sl:Slots} {hs:List Asn} {X:Act → World → Prop} (E:TypeId) (sz:Nat) (k:Tr c D sl (row E sz (.slice none 0 0) 0 [] :: hs) X):Tr c D sl hs X:=fun a w hst=>
  k a w (hst.heap (hst.mem.rowNil E sz))
theorem flatten_get {sz j:Nat} {r:List Value} {u:Value}:∀ (xs:List (List Value)) (i:Nat),(∀ r ∈ xs,r.length = sz) → xs[i]? = some r → r[j]? = some u → xs.flatten[i * sz + j]? = some u
  | [],i,_,hr,_=>by simp at hr
  | x :: xs, 0, hx, hr, hu => by
    simp at hr;subst hr
    rw [List.flatten_cons,List.getElem?_append_left (by rw [Nat.zero_mul,Nat.zero_add];exact (List.getElem?_eq_some_iff.1 hu).1),Nat.zero_mul,Nat.zero_add]
    exact hu
  | x :: xs, i + 1, hx, hr, hu => by
    have hxl:=hx x (by simp)
    rw [List.flatten_cons,List.getElem?_append_right (by rw [hxl,Nat.succ_mul];omega),hxl,Nat.succ_mul,show i * sz + sz + j - sz = i * sz + j from by omega]
    exact flatten_get xs i (fun r hr'=>hx r (by simp [hr'])) (by simpa using hr) hu
theorem row_rd {w:World} {E:TypeId} {sz:Nat} {v:Value} {n:Nat} {xs:List (List Value)} {fp:List Nat} (hx:∀ r ∈ xs,r.length = sz) (hn:xs.length = n) (h:(row E sz v n xs.flatten).sat (hp w) fp):Rd w v sz xs:=by
  subst hn
  obtain ⟨_,hl,h1⟩:=h
  rcases h1 with ⟨rfl,hn⟩ | ⟨g,cap,cur,rfl,hg,hcap,hm,hsz,htake⟩
  · have:xs = []:=List.length_eq_zero_iff.1 hn
    subst this
    exact Rd.nil w sz
  · refine ⟨_,cap,g,0,rfl,hcap,hm,fun _=>rfl,fun i r hr=>⟨hx r (List.mem_of_getElem? hr),fun j u hu=>?_⟩⟩
    have hgw:w.heap[g]? = some (.cells cur E (0,0)):=hg
    rw [cell_of_block hgw]
    have hrl:=hx r (List.mem_of_getElem? hr)
    have hi:i < xs.length:=(List.getElem?_eq_some_iff.1 hr).1
    have hj:j < sz:=by rw [← hrl];exact (List.getElem?_eq_some_iff.1 hu).1
    have hflat:xs.flatten[i * sz + j]? = some u:=flatten_get xs i hx hr hu
    have hlt:i * sz + j < xs.length * sz:=by
      have:(i + 1) * sz ≤ xs.length * sz:=Nat.mul_le_mul_right _ hi
      rw [Nat.succ_mul] at this
      omega
    rw [← htake,List.getElem?_take,if_pos hlt] at hflat
    simpa using hflat
theorem Mem.rdRow {c:Cx} {hs hs':List Asn} {w:World} (hm:Mem c hs w) {E:TypeId} {sz:Nat} {v:Value} {n:Nat} {ys:List Value} {xs:List (List Value)} (ht:Take hs (row E sz v n ys) hs') (he:ys = xs.flatten) (hx:∀ r ∈ xs,r.length = sz) (hn:xs.length = n):Rd w v sz xs:=by
  subst he
  obtain ⟨_,fp,_,⟨f1,f2,_,h1,_⟩,_⟩:=hm.take ht
  exact row_rd hx hn h1
theorem flatten_singletons {α:Type} (l:List α):(l.map fun v=>[v]).flatten = l:=by
  induction l with
  | nil=>rfl
  | cons x l ih=>simp [ih]
theorem Mem.rdRow1 {c:Cx} {hs hs':List Asn} {w:World} (hm:Mem c hs w) {E:TypeId} {v:Value} {n:Nat} {ys:List Value} (ht:Take hs (row E 1 v n ys) hs') (hn:ys.length = n):Rd w v 1 (ys.map fun u=>[u]):=
  hm.rdRow ht (flatten_singletons ys).symm (fun r hr=>by obtain ⟨u,_,rfl⟩:=List.mem_map.1 hr;rfl) (by simpa using hn)
theorem tr_rowOpen {c:Cx} {D:List Nat} {sl:Slots} {hs hs':List Asn} {X:Act → World → Prop} {E:TypeId} {sz:Nat} {v:Value} {n:Nat} {xs:List Value} (ht:Take hs (row E sz v n xs) hs') (hn:0 < n)
    (k:∀ g cap cur,v = .slice (some ⟨g,0,none⟩) n cap → n ≤ cap → cap ≤ maxLen → (xs++cur).length = cap * sz → xs.length = n * sz → Tr c D sl (blk g (.cells (xs++cur).toArray E (0,0)) :: hs') X):Tr c D sl hs X:=fun a w hst=>by
  have hm:=hst.mem.take (ht.append _)
  obtain ⟨kk,fp,hnd,⟨f1,f2,rfl,⟨e,hl,h1⟩,h2⟩,hb⟩:=hm
  rcases h1 with ⟨_,h0⟩ | ⟨g,cap,cur,rfl,hg,hcap,hmx,hsz,htake⟩
  · omega
  · have hcur:cur = (xs++cur.toList.drop (n * sz)).toArray:=by
      rw [← htake,List.take_append_drop]
    have hlen:(xs++cur.toList.drop (n * sz)).length = cap * sz:=by rw [← htake,List.take_append_drop];simpa using hsz
    refine k g cap (cur.toList.drop (n * sz)) rfl hcap hmx hlen hl a w (hst.heap ⟨kk,f1++f2,hnd,⟨f1,f2,rfl,⟨?_,?_⟩,h2⟩,hb⟩)
    · rw [e];rfl
    · rw [← hcur];exact hg
theorem Mem.rowShut {c:Cx} {hs:List Asn} {w:World} {E:TypeId} {sz g n cap:Nat} {xs cur:List Value} (hm:Mem c (SL.blk g (.cells (xs++cur).toArray E (0,0)) :: hs) w) (hcap:n ≤ cap) (hmx:cap ≤ maxLen) (hsz:(xs++cur).length = cap * sz) (hl:xs.length = n * sz):Mem c (row E sz (.slice (some ⟨g,0,none⟩) n cap) n xs :: hs) w:=by
  obtain ⟨kk,fp,hnd,⟨f1,f2,rfl,⟨e,hg⟩,h2⟩,hb⟩:=hm
  refine ⟨kk,f1++f2,hnd,⟨f1,f2,rfl,⟨by rw [e];rfl,hl,.inr ⟨g,cap,_,rfl,hg,hcap,hmx,by simpa using hsz,?_⟩⟩,h2⟩,hb⟩
  simp [← hl]
theorem tr_rowShut {c:Cx} {D:List Nat} {sl:Slots} {hs hs':List Asn} {X:Act → World → Prop} {E:TypeId} {sz g n cap:Nat} {xs cur:List Value} (ht:Take hs (blk g (.cells (xs++cur).toArray E (0,0))) hs') (hcap:n ≤ cap) (hmx:cap ≤ maxLen) (hsz:(xs++cur).length = cap * sz) (hl:xs.length = n * sz)
    (k:Tr c D sl (row E sz (.slice (some ⟨g,0,none⟩) n cap) n xs :: hs') X):Tr c D sl hs X:=fun a w hst=>
  k a w (hst.heap (Mem.rowShut (hst.mem.take (ht.append _)) hcap hmx hsz hl))
section
variable {P:Program} {r:Option Nat} {c:Cx} {D:List Nat} {sl:Slots} {hs hs':List Asn} {ops:Array Oper} {Q:Exit → Act → World → Prop} {d:Nat} {ty:TypeId} {pos:String} {af:Array Edge} {rest:List Oper}
theorem append_loc {w w':World} {t ty e:TypeId} {i:TypeInfo} {z:Value} (ht:P.underlying t = some (.slice e)) (hi:P.info? e = some i) (hz:i.zero = some z)
    {v v':Value} {n:Nat} {xs:List Value} (hown:w.ownsRow 0 e i.size v n xs) {a:Addr} {m cp:Nat} {news:List Value} (hl:news.length = m * i.size) (hnews:∀ j u,news[j]? = some u → w.cell? (a.add j) = some u) (h1:∀ u ∈ news,u.oneCell' = true)
    (h63:n + m ≤ maxLen) (hbytes:(n + m) * i.bytes ≤ 140737488355328) (hrun:(Builtin.append_ #[t,t] ty #[v,.slice (some a) m cp]).run P w = .ok v' w'):v'.ownBlock = v.ownBlock ∨ v'.ownBlock = some w.heap.size:=by
  have hsmall:n + m ≤ 9223372036854775807:=by simp only [maxLen] at h63;omega
  rcases hown.2 with ⟨rfl,rfl⟩ | ⟨g,cap,cur,rfl,hbg,hg,hnc,hcm,hcs,htake⟩
  · by_cases hm:m = 0
    · subst hm
      have hn:news = []:=List.eq_nil_of_length_eq_zero (by simpa using hl)
      subst hn
      have:(Builtin.append_ #[t,t] ty #[.slice none 0 0,.slice (some a) 0 cp]).run P w = .ok (.slice none 0 0) w:=by
        simp [Builtin.append_,rk_underlying ht,sizeOf,typeInfo,hi,Builtin.lenOf,Builtin.firstCells,loadCells,loadCellsFrom]
      rw [hrun] at this
      cases this
      exact .inl rfl
    · have hr:=run_append_nil (P:=P) w t ty e i z ht hi hz a m cp news hl hnews (by omega) (by omega) (by have hb:=hbytes;simp only [Nat.zero_add] at hb;omega)
      rw [hrun] at hr
      cases hr
      exact .inr rfl
  · by_cases hroom:n + m ≤ cap
    · have hfit:n * i.size + news.length ≤ cur.size:=by rw [hl,hcs,← Nat.add_mul];exact Nat.mul_le_mul_right _ hroom
      have hr:=run_append_room (P:=P) w t ty e i ht hi g n cap cur hg a m cp news hl hnews h1 hroom hfit
      rw [hrun] at hr
      cases hr
      exact .inl rfl
    · have holds:∀ j u,xs[j]? = some u → w.cell? ((⟨g,0,none⟩:Addr).add j) = some u:=hown.cells (g:=g) rfl
      have hr:=run_append_grow (P:=P) w t ty e i z ht hi hz ⟨g,0,none⟩ n cap xs hown.1 holds a m cp news hl hnews (by omega) (by omega) (growslice_fits (by omega) hbytes)
      rw [hrun] at hr
      cases hr
      exact .inr rfl
theorem tr_append {t e:TypeId} {agg:Bool} {size bytes:Nat} {z:Value} {x y:Operand} {v:Value} {n b o m cp:Nat} {xs news:List Value} [hu:Und P t (.slice e)] [hT:Ty P e agg size] [hZ:Zer P e z] [hB:Byt P e bytes]
    (hx:Is sl x v) (hy:Is sl y (.slice (some ⟨b,o,none⟩) m cp)) (ht:Take hs (row e size v n xs) hs') (hn:Ats c hs b o news) (hl:news.length = m * size) (h1:∀ u ∈ news,u.oneCell' = true) (hz:z.cells.size = size) (hsz:Nat.blt 0 size = true) (hb0:Nat.blt 0 bytes = true)
    (hb:(n + m) * bytes ≤ 140737488355328) (hd:Nat.blt d c.nt = true)
    (k:∀ v',Tr c D ((d,v') :: sl) (row e size v' (n + m) (xs++news) :: hs') (WL P r ops Q rest)) :
    Tr c D sl hs (WL P r ops Q (⟨some d,.call ⟨.builtin .append,#[x,y],#[t,t]⟩,ty,pos,af,none⟩ :: rest)):=fun a w hst=>by
  obtain ⟨de,i,hde,hi,_,hsize⟩:=Ty.parts (P:=P) (t:=e) (agg:=agg) (n:=size)
  have hzero:i.zero = some z:=by have:=hZ.eq;rw [hi] at this;simpa using this
  have hbytes:i.bytes = bytes:=by have:=hB.eq;rw [hi] at this;simpa using this
  have hm0:=hst.mem'
  have hm:=hst.mem.take (ht.append _)
  obtain ⟨kk,fp,hnd,⟨f1,f2,rfl,hrow,h2⟩,hfb⟩:=hm
  have hown:=row_owns hrow
  have hbpos:0 < bytes:=by simpa using hb0
  have hmax:n + m ≤ maxLen:=by
    have:(n + m) * 1 ≤ (n + m) * bytes:=Nat.mul_le_mul_left _ hbpos
    unfold maxLen;omega
  obtain ⟨v',w',hrun,hown',hgr,_⟩:=run_append_own (P:=P) w 0 t ty e i z size bytes hu.eq hi hzero hsize hbytes hz (by simpa using hsz) v n xs hown ⟨b,o,none⟩ m cp news hl
    (fun j u hj=>by rw [addr_add];exact hn.get j u hj w hm0) h1 hmax hb (Nat.zero_le _)
  have hloc:=append_loc (P:=P) (t:=t) (ty:=ty) hu.eq hi hzero (by rw [hsize];exact hown) (a:=⟨b,o,none⟩) (m:=m) (cp:=cp) (by rw [hsize];exact hl) (fun j u hj=>by rw [addr_add];exact hn.get j u hj w hm0) h1 hmax (by rw [hbytes];exact hb) hrun
  refine wl_op rfl ⟨fr_about _ _ _ _ _,?_⟩
  rw [Oper.semAt_eq _ _ _ (by simp)]
  have:(execOp a.eval ⟨some d,.call ⟨.builtin .append,#[x,y],#[t,t]⟩,ty,pos,af,none⟩).run P w = .ok (.value v') w':=by
    simp [execOp,resolve,invoke,builtin,hx a hst.slots,hy a hst.slots,hrun]
  rw [this]
  refine k v' _ _ ((hst.put (by simpa [Nat.blt_eq] using hd) v').heap ?_)
  have hm:Mem c ([row e size v n xs]++(hs'++mks D)) w:=⟨kk,f1++f2,hnd,⟨f1,f2,rfl,hrow,h2⟩,hfb⟩
  have:=Mem.change (Bs:=[row e size v' (n + m) (xs++news)]) (w':=w') hm fun fp hn' hf=>by
    obtain ⟨g1,g2,e1,hr,e2⟩:=hf
    have hfp:fp = v.ownBlock.toList:=by rw [e1,show g2 = [] from e2,hr.1];simp
    refine ⟨⟨hgr.os,hgr.tape,hgr.output,hgr.size,fun q hq hnq=>hgr.block q hq (fun he=>hnq ?_)⟩,v'.ownBlock.toList,?_,⟨_,[],by simp,row_of_owns hown',rfl⟩,fun q hq=>?_⟩
    · rw [hfp,← he];simp
    · cases v'.ownBlock <;> simp
    · have hq':v'.ownBlock = some q:=by simpa [Option.mem_toList] using hq
      rcases hloc with h | h
      · left;rw [hfp,← h,hq'];simp
      · right
        rw [h] at hq'
        cases hq'
        exact Nat.le_refl _
  simpa using this
end
end Go.SL
namespace Go.SL
open Go
def LoopPost {ι:Type} (c:Cx) (D:List Nat) (Φ:ι → Prop) (sI:ι → Slots) (hI:ι → List Asn) (μ:ι → Nat) (i:ι):Act → World → Prop:=fun a w=>∃ j,Φ j ∧ μ j < μ i ∧ St c D (sI j) (hI j) a w
def LoopStart {ι:Type} (c:Cx) (D:List Nat) (Φ:ι → Prop) (sI:ι → Slots) (hI:ι → List Asn):Act → World → Prop:=fun a w=>∃ i,Φ i ∧ St c D (sI i) (hI i) a w
section
variable {P:Program} {r:Option Nat} {c:Cx} {D:List Nat} {sl:Slots} {hs hs':List Asn} {Q:Exit → Act → World → Prop} {ι:Type} {Φ:ι → Prop} {sI:ι → Slots} {hI:ι → List Asn} {μ:ι → Nat}
theorem tr_for {x:Code} (Φ:ι → Prop) (sI:ι → Slots) (hI:ι → List Asn) (μ:ι → Nat) (h0:Tr c D sl hs (LoopStart c D Φ sI hI))
    (round:∀ i,Φ i → Tr c D (sI i) (hI i) (WP P r x (Exit.then (LoopPost c D Φ sI hI μ i) Q))):Tr c D sl hs (WP P r (.loop x) Q):=
  tr_loop Φ sI hI μ h0 round
def Subs (sl:Slots):Slots → Prop
  | []=>True
  | (t,v) :: r=>sget sl t = some v ∧ Subs sl r
theorem Subs.get:∀ {sl':Slots},Subs sl sl' → ∀ t v,sget sl' t = some v → sget sl t = some v
  | [],_,t,v,h=>by cases h
  | (u, x) :: r, ⟨h1, h2⟩, t, v, h => by
    by_cases e:u = t
    · subst e;rw [sget_cons_eq] at h;cases h;exact h1
    · rw [sget_cons_ne e] at h;exact Subs.get h2 t v h
theorem Subs.nil:Subs sl []:=trivial
theorem Subs.cons {t:Nat} {v:Value} {r:Slots} (h:sget sl t = some v) (k:Subs sl r):Subs sl ((t,v) :: r):=⟨h,k⟩
theorem St.weaken {sl':Slots} {hs1 rest:List Asn} {a:Act} {w:World} (h:St c D sl hs a w) (hs':Subs sl sl') (ht:Takes hs hs1 rest):St c D sl' hs1 a w:=by
  refine ⟨?_,h.slots.sub hs'.get,h.size,h.defers⟩
  have h1:=h.mem.takes (ht.append (mks D))
  -- hs1++(rest++mks):forget the rest
  obtain ⟨k,fp,hn,hsat,hb⟩:=h1
  obtain ⟨f1,f2,rfl,s1,s2⟩:=Sats.append_iff.1 hsat
  obtain ⟨g1,g2,rfl,s3,s4⟩:=Sats.append_iff.1 s2
  refine ⟨k,f1++g2,?_,Sats.append_iff.2 ⟨f1,g2,rfl,s1,s4⟩,fun b hb'=>hb b ?_⟩
  · obtain ⟨n1,n2,n3⟩:=List.nodup_append.1 hn
    obtain ⟨_,n5,_⟩:=List.nodup_append.1 n2
    exact List.nodup_append.2 ⟨n1,n5,fun x hx y hy=>n3 x hx y (List.mem_append_right _ hy)⟩
  · rcases List.mem_append.1 hb' with h | h
    · exact List.mem_append_left _ h
    · exact List.mem_append_right _ (List.mem_append_right _ h)
theorem tr_next {i:ι} (j:ι) {rest:List Asn} (hΦ:Φ j) (hμ:μ j < μ i) (hs1:Subs sl (sI j)) (ht:Takes hs (hI j) rest):Tr c D sl hs (LoopPost c D Φ sI hI μ i):=
  fun a w hst=>⟨j,hΦ,hμ,hst.weaken hs1 ht⟩
theorem tr_start (j:ι) {rest:List Asn} (hΦ:Φ j) (hs1:Subs sl (sI j)) (ht:Takes hs (hI j) rest):Tr c D sl hs (LoopStart c D Φ sI hI):=
  fun a w hst=>⟨j,hΦ,hst.weaken hs1 ht⟩
def Meets (c:Cx) (D:List Nat) {ι:Type} (Φ:ι → Prop) (sM:ι → Slots) (hM:ι → List Asn):Act → World → Prop:=fun a w=>∃ x,Φ x ∧ St c D (sM x) (hM x) a w
theorem tr_cut {x y:Code} (Φ:ι → Prop) (sM:ι → Slots) (hM:ι → List Asn) (h1:Tr c D sl hs (WP P r x (Exit.then (Meets c D Φ sM hM) Q))) (h2:∀ x,Φ x → Tr c D (sM x) (hM x) (WP P r y Q)):Tr c D sl hs (WP P r (.seq x y) Q):=
  tr_seq fun a w hst=>wpIn_mono (h1 a w hst) fun e a' w' h=>by
    cases e with
    | normal=>obtain ⟨x,hx,hs⟩:=h;exact h2 x hx a' w' hs
    | _=>exact h
theorem tr_meet (x:ι) {sM:ι → Slots} {hM:ι → List Asn} {rest:List Asn} (hΦ:Φ x) (h1:Subs sl (sM x)) (ht:Takes hs (hM x) rest):Tr c D sl hs (Meets c D Φ sM hM):=fun a w hst=>⟨x,hΦ,hst.weaken h1 ht⟩
variable {ops:Array Oper} {d:Nat} {dst:Option Tmp} {ty:TypeId} {pos:String} {af:Array Edge} {g:Option (Nat × Bool)} {rest:List Oper}
theorem rk_rangeS {t:TypeId} {x:Operand} {s:ByteArray} [hu:Und P t .string] (hx:Is sl x (.string s)):RunN P c sl hs ⟨dst,.range t x,ty,pos,af,g⟩ (fun b=>.pointer (some ⟨b,0,none⟩)) (.stringIter s 0):=
  ⟨by simp,fun a w ha _=>by simp [execOp,hx a ha,Instr.range,rk_underlying hu.eq]⟩
theorem tr_nextS {x:Operand} {b p:Nat} {s:ByteArray} (hx:Is sl x (.pointer (some ⟨b,0,none⟩))) (ht:Take hs (blk b (.stringIter s p)) hs') (hd:Nat.blt d c.nt = true)
    (kt:p < s.size → Tr c D ((d,.tuple [Value.bool true,.int .i64 p,.int .i32 (Utf8.decode s p).1].toArray) :: sl) (blk b (.stringIter s (p + (Utf8.decode s p).2)) :: hs') (WL P r ops Q rest))
    (kf:¬ p < s.size → Tr c D ((d,.tuple [Value.bool false].toArray) :: sl) (blk b (.stringIter s p) :: hs') (WL P r ops Q rest)) :
    Tr c D sl hs (WL P r ops Q (⟨some d,.next x true,ty,pos,af,none⟩ :: rest)):=fun a w hst=>by
  have hm:=hst.mem.take (ht.append _)
  have hb:w.heap[b]? = some (.stringIter s p):=hm.blk .here
  have hlt:=hp_lt (w:=w) hb
  refine wl_op rfl ⟨fr_about _ _ _ _ _,?_⟩
  rw [Oper.semAt_eq _ _ _ (by simp)]
  by_cases h:p < s.size
  · have:(execOp a.eval ⟨some d,.next x true,ty,pos,af,none⟩).run P w = .ok (.value (.tuple [Value.bool true,.int .i64 p,.int .i32 (Utf8.decode s p).1].toArray)) (setBlock w b (.stringIter s (p + (Utf8.decode s p).2))):=by
      simp [execOp,hx a hst.slots,Instr.next,getObj,setObj,Sem.run,hb,h,goInt,setBlock]
    rw [this]
    exact kt h _ _ ((hst.put (by simpa [Nat.blt_eq] using hd) _).heap (Mem.store hm (Keeps.setBlock w b _) (setBlock_same hlt)))
  · have:(execOp a.eval ⟨some d,.next x true,ty,pos,af,none⟩).run P w = .ok (.value (.tuple [Value.bool false].toArray)) w:=by
      simp [execOp,hx a hst.slots,Instr.next,getObj,Sem.run,hb,h]
    rw [this]
    exact kf h _ _ ((hst.put (by simpa [Nat.blt_eq] using hd) _).heap hm)
structure KeyLaw (kind:TypeDesc) {κ:Type} [DecidableEq κ] (kv:κ → Value):Prop where
  same:∀ a b,Instr.sameNow kind (kv a) (kv b) = some (decide (a = b))
  bits:∀ a,Instr.sameBits 10000 (kv a) (kv a) = true
  flat:∀ (P:Program) (t:TypeId) (e:Bool) (w:World) (a:κ),P.underlying t = some kind → (Instr.checkKey e 10000 t (kv a)).run P w = .ok () w
structure mpOk {κ:Type} (kv:κ → Value) (l:List (κ × Value)) (es:Array MapEntry) (ck:Nat):Prop where
  eq:es.toList.map (fun e=>(e.key,e.val)) = l.map (fun p=>(kv p.1,p.2))
  nd:(es.toList.map (·.born)).Nodup
  lt:∀ x ∈ es.toList,x.born < ck
def mp {κ:Type} (kv:κ → Value) (b:Nat) (l:List (κ × Value)):Asn where
  sat h fp:=fp = [b] ∧ ∃ es clock,h b = some (.map es clock) ∧ mpOk kv l es clock
  loc:=fun ⟨e,es,ck,h1,h2⟩ hb=>⟨e,es,ck,by rw [hb _ (by rw [e];simp)];exact h1,h2⟩
  own:=fun ⟨e,es,ck,h1,h2⟩ b' hb'=>by rw [e] at hb';rw [List.mem_singleton.1 hb'];exact ⟨_,h1⟩
def alook {κ:Type} [DecidableEq κ] (k:κ):List (κ × Value) → Option Value
  | []=>none
  | (x,v) :: r=>if k = x then some v else alook k r
def aset {κ:Type} [DecidableEq κ] (k:κ) (v:Value):List (κ × Value) → List (κ × Value)
  | []=>[(k,v)]
  | (x,u) :: r=>if k = x then (x,v) :: r else (x,u) :: aset k v r
section
variable {κ:Type} [DecidableEq κ] {kv:κ → Value} {kind:TypeDesc}
theorem findNow_spec (hk:KeyLaw kind kv) (k:κ):∀ (es:List MapEntry) (l:List (κ × Value)) (i:Nat),es.map (fun e=>(e.key,e.val)) = l.map (fun p=>(kv p.1,p.2)) →
    (alook k l = none ∧ Instr.findNow kind (kv k) es i = some none) ∨
    (∃ j v,alook k l = some v ∧ Instr.findNow kind (kv k) es i = some (some (i + j,v)) ∧ j < es.length ∧ (∃ x,l[j]? = some (x,v) ∧ x = k) ∧ ∀ u,aset k u l = l.set j (k,u))
  | [],[],i,_=>.inl ⟨rfl,rfl⟩
  | [],_ :: _,i,h=>by simp at h
  | _ :: _,[],i,h=>by simp at h
  | e :: es, (x, v) :: l, i, h => by
    simp only [List.map_cons,List.cons.injEq,Prod.mk.injEq] at h
    obtain ⟨⟨h1,h2⟩,h3⟩:=h
    have hs:=hk.same k x
    unfold Instr.findNow
    rw [h1,hs]
    by_cases e':k = x
    · subst e'
      refine .inr ⟨0,v,by simp [alook],by simp [h2],by simp,⟨k,by simp,rfl⟩,fun u=>by simp [aset]⟩
    · simp only [e',decide_false]
      rcases findNow_spec hk k es l (i + 1) h3 with ⟨a1,a2⟩ | ⟨j,u,a1,a2,a3,⟨y,a4,a5⟩,a6⟩
      · exact .inl ⟨by simp [alook,e',a1],a2⟩
      · exact .inr ⟨j + 1,u,by simp [alook,e',a1],by rw [a2];congr 3;omega,by simp;omega,⟨y,by simpa using a4,a5⟩,fun u'=>by simp [aset,e',a6 u']⟩
theorem aset_none {k:κ} {v:Value}:∀ {l:List (κ × Value)},alook k l = none → aset k v l = l++[(k,v)]
  | [],_=>rfl
  | (x, u) :: r, h => by
    simp only [alook] at h
    split at h
    · cases h
    · rename_i e;simp [aset,e,aset_none h]
theorem tr_makeMap {t:TypeId} (kv:κ → Value) (hd:Nat.blt d c.nt = true) (k:∀ b,c.w0.heap.size ≤ b → Tr c D ((d,.map (some b)) :: sl) (mp kv b [] :: hs) (WL P r ops Q rest)) :
    Tr c D sl hs (WL P r ops Q (⟨some d,.makeMap t none,ty,pos,af,none⟩ :: rest)):=
  tr_new rk_makeMap hd fun b hb a w hst=>k b hb a w (hst.heap (by
    obtain ⟨kk,fp,hn,⟨f1,f2,rfl,⟨e,h1⟩,h2⟩,hfb⟩:=hst.mem
    exact ⟨kk,f1++f2,hn,⟨f1,f2,rfl,⟨e,#[],0,h1,rfl,List.nodup_nil,fun _ h=>by cases h⟩,h2⟩,hfb⟩))
def Looks (c:Cx) (hs:List Asn) (b:Nat) (kv:κ → Value) (l:List (κ × Value)):Prop:=∀ w,Mem c hs w → ∃ es clock,w.heap[b]? = some (.map es clock) ∧ mpOk kv l es clock
theorem Looks.mp {b:Nat} {l:List (κ × Value)} (ht:Take hs (SL.mp kv b l) hs'):Looks c hs b kv l:=fun w hm=>by
  obtain ⟨_,fp,_,⟨f1,f2,_,⟨_,es,ck,h1,h2⟩,_⟩,_⟩:=hm.take ht
  exact ⟨es,ck,h1,h2⟩
theorem rk_lookup {t kt et:TypeId} {x y:Operand} {b:Nat} {k:κ} {l:List (κ × Value)} {z:Value} [hu:Und P t (.map kt et)] [hkt:Und P kt kind] [hz:Zer P et z] (hk:KeyLaw kind kv) (hx:Is sl x (.map (some b))) (hy:Is sl y (kv k)) (hl:Looks c hs b kv l) :
    RunV P c sl hs ⟨dst,.lookup t x y false,ty,pos,af,g⟩ ((alook k l).getD z):=
  ⟨by simp,fun a w ha hm=>by
    obtain ⟨es,ck,h1,h2⟩:=hl w hm
    have hg:(getObj b).run P w = .ok (.map es ck) w:=by simp [getObj,Sem.run,h1]
    have hfk:=hk.flat P kt es.isEmpty w k hkt.eq
    rcases findNow_spec hk k es.toList l 0 h2.eq with ⟨a1,a2⟩ | ⟨j,v,a1,a2,_⟩
    · have:(Instr.findKey kt (kv k) es.toList).run P w = .ok none w:=by
        simp [Instr.findKey,rk_underlying hkt.eq,a2]
      simp [execOp,hx a ha,hy a ha,Instr.lookup,rk_underlying hu.eq,hg,hfk,this,a1,rk_zeroValue (t:=et) (v:=z)]
    · have:(Instr.findKey kt (kv k) es.toList).run P w = .ok (some (0 + j,v)) w:=by
        simp [Instr.findKey,rk_underlying hkt.eq,a2]
      simp [execOp,hx a ha,hy a ha,Instr.lookup,rk_underlying hu.eq,hg,hfk,this,a1]⟩
theorem tr_mapUpdate {t kt et:TypeId} {x y v':Operand} {b:Nat} {k:κ} {v:Value} {l:List (κ × Value)} [hu:Und P t (.map kt et)] [hkt:Und P kt kind] (hk:KeyLaw kind kv) (hx:Is sl x (.map (some b))) (hy:Is sl y (kv k)) (hv:Is sl v' v) (ht:Take hs (mp kv b l) hs')
    (kk:Tr c D sl (mp kv b (aset k v l) :: hs') (WL P r ops Q rest)):Tr c D sl hs (WL P r ops Q (⟨none,.mapUpdate t x y v',ty,pos,af,none⟩ :: rest)):=fun a w hst=>by
  have hm:=hst.mem.take (ht.append _)
  obtain ⟨kk0,fp,hn,⟨f1,f2,rfl,⟨e,es,ck,h1,h2⟩,h3⟩,hfb⟩:=hm
  have h1':w.heap[b]? = some (.map es ck):=h1
  have hm:Mem c ([mp kv b l]++(hs'++mks D)) w:=⟨kk0,f1++f2,hn,⟨f1,f2,rfl,⟨e,es,ck,h1,h2⟩,h3⟩,hfb⟩
  have hg:(getObj b).run P w = .ok (.map es ck) w:=by simp [getObj,Sem.run,h1']
  have hso:∀ o,(setObj b o).run P w = .ok () (setBlock w b o):=fun o=>by simp [setObj,Sem.run,h1',setBlock]
  have hfk:=hk.flat P kt false w k hkt.eq
  have hlt:=hp_lt (w:=w) h1'
  have hrun:∃ es' ck',(execOp a.eval ⟨none,.mapUpdate t x y v',ty,pos,af,none⟩).run P w = .ok .skip (setBlock w b (.map es' ck')) ∧ mpOk kv (aset k v l) es' ck':=by
    rcases findNow_spec hk k es.toList l 0 h2.eq with ⟨a1,a2⟩ | ⟨j,v0,a1,a2,hj,⟨x0,hx0,rfl⟩,hset⟩
    · have hf:(Instr.findKey kt (kv k) es.toList).run P w = .ok none w:=by
        simp [Instr.findKey,rk_underlying hkt.eq,a2]
      refine ⟨es.push { key:=kv k,val:=v,born:=ck },ck + 1,?_,?_⟩
      · simp [execOp,hx a hst.slots,hy a hst.slots,hv a hst.slots,Instr.mapUpdate,rk_underlying hu.eq,hg,hfk,hf,hso]
      · refine ⟨?_,?_,?_⟩
        · rw [aset_none a1]
          simp [h2.eq]
        · simp only [Array.toList_push,List.map_append,List.map_cons,List.map_nil]
          refine List.nodup_append.2 ⟨h2.nd,by simp,fun x hx y hy e=>?_⟩
          obtain ⟨z,hz,rfl⟩:=List.mem_map.1 hx
          have:=h2.lt z hz
          simp at hy;omega
        · intro x hx
          rw [Array.toList_push,List.mem_append] at hx
          rcases hx with hx | hx
          · have:=h2.lt x hx;omega
          · simp at hx;subst hx;show ck < ck + 1;omega
    · have hf:(Instr.findKey kt (kv x0) es.toList).run P w = .ok (some (0 + j,v0)) w:=by
        simp [Instr.findKey,rk_underlying hkt.eq,a2]
      have hkey:(es[j]?.map (·.key)).getD (kv x0) = kv x0:=by
        have h5:(es.toList.map (fun e=>(e.key,e.val)))[j]? = some (kv x0,v0):=by rw [h2.eq];simp [hx0]
        rw [List.getElem?_map] at h5
        obtain ⟨e0,he0,he1⟩:=Option.map_eq_some_iff.1 h5
        simp only [Prod.mk.injEq] at he1
        have:es[j]? = some e0:=by simpa using he0
        simp [this,he1.1]
      have hks:(Instr.keyThatStays (kv x0) (kv x0)).run P w = .ok (kv x0) w:=by simp [Instr.keyThatStays,hk.bits]
      refine ⟨es.modify j fun e=>{ e with key:=kv x0,val:=v },ck,?_,?_⟩
      · simp only [execOp,hx a hst.slots,hy a hst.slots,hv a hst.slots,Instr.mapUpdate,Sem.run_bind,rk_underlying hu.eq,Result.andThen_ok,hg,hfk,hf,Nat.zero_add,hkey,hks,hso,Sem.run_pure]
      · have hborn:((es.modify j fun e=>{ e with key:=kv x0,val:=v }).toList.map (·.born)) = es.toList.map (·.born):=by
          rw [Array.toList_modify]
          apply List.ext_getElem?
          intro q
          rw [List.getElem?_map,List.getElem?_map,List.getElem?_modify]
          by_cases hqj:j = q
          · subst hqj;cases es.toList[j]? <;> simp
          · simp [hqj]
        refine ⟨?_,by rw [hborn];exact h2.nd,fun x hx=>?_⟩
        rotate_left
        · have:x.born ∈ es.toList.map (·.born):=by rw [← hborn];exact List.mem_map.2 ⟨x,hx,rfl⟩
          obtain ⟨y,hy,e⟩:=List.mem_map.1 this
          rw [← e];exact h2.lt y hy
        rw [hset]
        rw [Array.toList_modify]
        apply List.ext_getElem?
        intro q
        rw [List.getElem?_map,List.getElem?_map,List.getElem?_modify,List.getElem?_set]
        have hq:(es.toList.map (fun e=>(e.key,e.val)))[q]? = (l.map (fun p=>(kv p.1,p.2)))[q]?:=by rw [h2.eq]
        rw [List.getElem?_map,List.getElem?_map] at hq
        have hlen:es.toList.length = l.length:=by have:=congrArg List.length h2.eq;simpa using this
        by_cases hqj:j = q
        · subst hqj
          have hjl:j < l.length:=by rw [← hlen];exact hj
          have he:es.toList[j]? = some es.toList[j]:=List.getElem?_eq_getElem hj
          rw [he,if_pos rfl,if_pos hjl];simp
        · rw [if_neg hqj,← hq];simp [hqj]
  obtain ⟨es',ck',hr,hok⟩:=hrun
  refine wl_op rfl ⟨fr_about _ _ _ _ _,?_⟩
  rw [Oper.semAt_eq _ _ _ (by simp),hr]
  refine kk _ _ (hst.heap ?_)
  have:=Mem.change (Bs:=[mp kv b (aset k v l)]) (w':=setBlock w b (.map es' ck')) hm fun fp hn' hf=>by
    obtain ⟨g1,g2,e1,hr',e2⟩:=hf
    have hfp:fp = [b]:=by rw [e1,show g2 = [] from e2,hr'.1];rfl
    subst hfp
    exact ⟨Keeps.setBlock w b _,[b],by simp,⟨[b],[],rfl,⟨rfl,es',ck',setBlock_same hlt,hok⟩,rfl⟩,fun q hq=>.inl hq⟩
  simpa using this
end
theorem keyS:KeyLaw .string (fun s:ByteArray=>Value.string s) where
  same a b:=by
    simp only [Instr.sameNow]
    congr 1
    rw [beq_toListBytes,str_beq]
  bits a:=by unfold Instr.sameBits;simp [beq_toListBytes]
  flat P t e w a h:=by unfold Instr.checkKey;simp [rk_underlying h]
theorem keyI:KeyLaw (.int .i64) (fun n:Int=>Value.int .i64 n) where
  same a b:=by simp [Instr.sameNow];rfl
  bits a:=by unfold Instr.sameBits;simp
  flat P t e w a h:=by unfold Instr.checkKey;simp [rk_underlying h]
end
end Go.SL
namespace Go.SL
open Go
def exA {ι:Type} (Φ:ι → Prop) (A:ι → List Asn):Asn where
  sat h fp:=∃ x,Φ x ∧ Sats h (A x) fp
  loc:=fun ⟨x,hx,hs⟩ hb=>⟨x,hx,hs.loc hb⟩
  own:=fun ⟨_,_,hs⟩ b hb=>hs.own b hb
section
variable {P:Program} {r:Option Nat} {c:Cx} {D:List Nat} {sl:Slots} {hs hs':List Asn} {Q:Exit → Act → World → Prop} {ι:Type}
theorem round_any {l:Nat} {f:FuncId} {tmps:Array Value} {asg body:Code} {w:World} {R:Ending → World → Prop} (h:RoundIn (FR none) 0 P l f tmps asg body w R):RoundIn (FR r) 0 P l f tmps asg body w R:=h
variable {ops:Array Oper} {d:Nat} {ty:TypeId} {pos:String} {af:Array Edge} {rest:List Oper}
def recL (rc:Loop) (s:LoopState) (pd:Option Code):Obj:=.loop { rc with state:=s,pending:=pd }
def RoundR (md:List Nat) (w:World) (post:Bool → Asn):Ending → World → Prop:=fun e W'=>∃ b,e = .returned (.bool b) ∧ Keeps md w W' ∧ ∃ fp':List Nat,fp'.Nodup ∧ (post b).sat (hp W') fp' ∧ ∀ x ∈ fp',x ∈ md ∨ w.heap.size ≤ x
def Begins (P:Program) (l:Nat) (body:Code) (R:Ending → World → Prop):Act → World → Prop:=fun a₁ w₁=>∃ w₂,(Instr.beginRound l).run P w₁ = .ok () w₂ ∧ body.wpIn (FR (some l)) 0 P (roundPost P l R) a₁ w₂
theorem tr_begin {l:Nat} {rc:Loop} {body:Code} {R:Ending → World → Prop} {pd:Option Code} (ht:Take hs (blk l (recL rc .ready pd)) hs') (k:Tr c D sl (blk l (recL rc .busy pd) :: hs') (WP P (some l) body (roundPost P l R))):Tr c D sl hs (Begins P l body R):=fun a w hst=>by
  have hm:=hst.mem.take (ht.append _)
  have hb:w.heap[l]? = some (recL rc .ready pd):=hm.blk .here
  refine ⟨w.putObj l (recL rc .busy pd),run_beginRound (r:={ rc with state:=.ready,pending:=pd }) hb rfl,k a _ (hst.heap (Mem.store hm ⟨rfl,rfl,rfl,by simp,fun k _ hn=>World.putObj_heap_other (by simpa using hn)⟩ (World.putObj_heap_same (hp_lt (w:=w) hb))))⟩
theorem round_end {l:Nat} {rc:Loop} {post:Bool → Asn} {s:LoopState} {pd jump:Option Code} (ht:Take hs (blk l (recL rc s pd)) hs') {hs2:List Asn} (ht2:∀ w,Mem c (blk l (recL rc (if jump.isNone then .ready else .done) jump) :: hs') w → ∃ fp:List Nat,fp.Nodup ∧ (post jump.isNone).sat (hp w) fp ∧ ∀ b ∈ fp,c.w0.heap.size ≤ b ∨ b ∈ c.md)
    {a:Act} {w:World} (hst:St c D sl hs a w):∃ v w',(Instr.endRound l jump).run P w = .ok v w' ∧ RoundR c.md c.w0 post (.returned v) w':=by
  have _:=hs2
  have hm:=hst.mem.take (ht.append _)
  have hb:w.heap[l]? = some (recL rc s pd):=hm.blk .here
  have hk:Keeps [l] w (w.putObj l (recL rc (if jump.isNone then .ready else .done) jump)):=⟨rfl,rfl,rfl,by simp,fun k _ hn=>World.putObj_heap_other (by simpa using hn)⟩
  have hm2:=Mem.store hm hk (World.putObj_heap_same (hp_lt (w:=w) hb))
  refine ⟨.bool jump.isNone,_,run_endRound (r:={ rc with state:=s,pending:=pd }) jump hb,jump.isNone,rfl,hm2.keeps,?_⟩
  obtain ⟨fp,h1,h2,h3⟩:=ht2 _ (by have:=hm2;rw [← List.cons_append] at this;exact this.dropTail)
  exact ⟨fp,h1,h2,fun b hb=>(h3 b hb).symm⟩
theorem sat_ex {Φ:ι → Prop} {A:ι → List Asn} (x:ι) (hx:Φ x) {As rest:List Asn} (ht:Takes As (A x) rest) {w:World} (hm:Mem c As w):∃ fp:List Nat,fp.Nodup ∧ (exA Φ A).sat (hp w) fp ∧ ∀ b ∈ fp,c.w0.heap.size ≤ b ∨ b ∈ c.md:=by
  obtain ⟨_,fp,hn,hsat,hb⟩:=hm.takes ht
  obtain ⟨f1,f2,rfl,h1,_⟩:=Sats.append_iff.1 hsat
  exact ⟨f1,(List.nodup_append.1 hn).1,⟨x,hx,h1⟩,fun b hb'=>hb b (List.mem_append_left _ hb')⟩
theorem tr_roundN {l:Nat} {rc:Loop} {post:Bool → Asn} {s:LoopState} {pd:Option Code} {Φ:ι → Prop} {A:ι → List Asn} (x:ι) {rest:List Asn} (hp1:post true = exA Φ A) (ht:Take hs (blk l (recL rc s pd)) hs') (hx:Φ x) (h2:Takes (blk l (recL rc .ready none) :: hs') (A x) rest) :
    Tr c D sl hs (roundPost P l (RoundR c.md c.w0 post) .normal):=fun _ _ hst=>
  round_end (jump:=none) (hs2:=[]) ht (fun w hm=>by show ∃ fp:List Nat,fp.Nodup ∧ (post true).sat (hp w) fp ∧ _;rw [hp1];exact sat_ex x hx h2 hm) hst
theorem tr_roundR {l:Nat} {rc:Loop} {post:Bool → Asn} {s:LoopState} {pd:Option Code} {Φ:ι → Prop} {A:ι → List Asn} (x:ι) {rest:List Asn} (hp1:post false = exA Φ A) (ht:Take hs (blk l (recL rc s pd)) hs') (hx:Φ x) (h2:Takes (blk l (recL rc .done (some .ret)) :: hs') (A x) rest) :
    Tr c D sl hs (roundPost P l (RoundR c.md c.w0 post) .ret):=fun _ _ hst=>
  round_end (jump:=some .ret) (hs2:=[]) ht (fun w hm=>by show ∃ fp:List Nat,fp.Nodup ∧ (post false).sat (hp w) fp ∧ _;rw [hp1];exact sat_ex x hx h2 hm) hst
def putAll:List (Nat × Value) → Slots → Slots
  | [],sl=>sl
  | (t,v) :: r,sl=>putAll r ((t,v) :: sl)
theorem putAll_ok {nt:Nat}:∀ (ps:List (Nat × Value)) (sl:Slots) (tmps:Array Value),SlotsOk sl ⟨tmps,[]⟩ → tmps.size = nt → (∀ p ∈ ps,p.1 < nt) →
    SlotsOk (putAll ps sl) ⟨ps.foldl (fun t p=>t.setIfInBounds p.1 p.2) tmps,[]⟩ ∧ (ps.foldl (fun (t:Array Value) p=>t.setIfInBounds p.1 p.2) tmps).size = nt
  | [],sl,tmps,h,hn,_=>⟨h,hn⟩
  | (t, v) :: ps, sl, tmps, h, hn, hp => by
    have h1:=h.put (d:=t) (by show t < tmps.size;rw [hn];exact hp (t,v) (by simp)) v
    exact putAll_ok ps ((t,v) :: sl) (tmps.setIfInBounds t v) h1 (by simpa using hn) (fun q hq=>hp q (by simp [hq]))
theorem tr_rangeFunc {g:Operand} {ps:Array Tmp} {asg body:Code} {f:FuncId} {first cap:List Value} (hg:Is sl g (.func (.func f) first.toArray cap.toArray)) [Bod P f]
    {As:Nat → Loop → List Asn} {rest:List Asn} {Φ:Nat → Loop → ι → Prop} {own:Nat → Loop → ι → List Asn} {st:ι → LoopState} {pd:ι → Option Code}
    (ht:∀ l rc,Takes (blk l (recL rc .ready none) :: hs) (As l rc) rest) (hst:∀ x,st x ≠ .busy)
    (hc:∀ l rc,rc.params = ps → rc.assign = asg → rc.body = body → SlotsOk sl ⟨rc.tmps,[]⟩ → rc.tmps.size = c.nt → ∀ w fp,Mem c (blk l (recL rc .ready none) :: hs) w → fp.Nodup → Sats (hp w) (As l rc) fp → (∀ b ∈ fp,c.w0.heap.size ≤ b ∨ b ∈ c.md) →
      Gives P f (first++[Value.func (Fn.yield l) #[] #[]]++cap) w fp (Φ l rc) (fun _=>Value.tuple #[]) (fun x=>blk l (recL rc (st x) (pd x)) :: own l rc x))
    (kn:∀ l rc x b,Φ l rc x → pd x = none → Tr c (b :: D) sl (own l rc x++rest) (Q .normal))
    (kj:∀ l rc x b j,Φ l rc x → pd x = some j → Tr c (b :: D) sl (own l rc x++rest) (WP P none j Q)) :
    Tr c D sl hs (WP P none (.rangeFunc g ps asg body) Q):=fun a w hs0=>by
  refine wpIn_rangeFunc fun fn _=>?_
  let rc:Loop:={ state:=.ready,pending:=none,fn,tmps:=a.tmps,params:=ps,assign:=asg,body,defers:=w.heap.size }
  let l:=w.heap.size + 1
  let w1:=(w.alloc (.deferred (some []))).alloc (.loop rc)
  have hrc:recL rc .ready none = .loop rc:=rfl
  -- the state behind the record
  have hm1:Mem c (blk w.heap.size (.deferred (some [])) :: (hs++mks D)) (w.alloc (.deferred (some []))):=hs0.mem.alloc _
  have hm2:Mem c (blk l (recL rc .ready none) :: blk w.heap.size (.deferred (some [])) :: (hs++mks D)) w1:=by
    have:=hm1.alloc (.loop rc)
    simpa [l,w1,hrc] using this
  -- rearranged: the record and hs ahead,the new mark among the marks
  have hm3:Mem c ((blk l (recL rc .ready none) :: hs)++mks (w.heap.size :: D)) w1:=by
    obtain ⟨k,fp,hn,⟨f1,f2,rfl,h1,⟨f3,f4,rfl,h3,h4⟩⟩,hb⟩:=hm2
    obtain ⟨f5,f6,rfl,h5,h6⟩:=Sats.append_iff.1 h4
    have hperm:(f1++(f3++(f5++f6))).Perm ((f1++f5)++(f3++f6)):=by
      rw [List.append_assoc]
      refine List.Perm.append_left f1 ?_
      rw [← List.append_assoc,← List.append_assoc]
      exact List.perm_append_comm.append_right f6
    refine ⟨k,(f1++f5)++(f3++f6),hperm.nodup_iff.1 hn,Sats.append_iff.2 ⟨f1++f5,f3++f6,rfl,⟨f1,f5,rfl,h1,h5⟩,⟨f3,f6,rfl,h3,h6⟩⟩,fun b hb'=>hb b (hperm.mem_iff.2 hb')⟩
  have htk:=ht l rc
  obtain ⟨k4,fp,hn,hsat,hb⟩:=hm3.takes (htk.append (mks (w.heap.size :: D)))
  obtain ⟨f1,f2,rfl,h1,h2⟩:=Sats.append_iff.1 hsat
  have hcall:=hc l rc rfl rfl rfl hs0.slots hs0.size w1 f1 hm3.dropTail (List.nodup_append.1 hn).1 h1 (fun b hb'=>hb b (List.mem_append_left _ hb'))
  refine ⟨l,[{ target:=.collected w.heap.size,args:=#[] }],w1,{ target:=.fn (.func f) cap.toArray,args:=first.toArray++#[.func (.yield l) #[] #[]] },w1,f,(first++[Value.func (Fn.yield l) #[] #[]]++cap).toArray,w1,run_enterLoop_outer fn a.tmps ps asg body,?_,fun _ _=>trivial,?_,by simp [FR,Fence.wide],?_⟩
  · have:=hg a hs0.slots
    simp only [resolve,rangeCall,Deferred.ofValue,this,Sem.run_bind,Sem.run_pure,Result.andThen_ok]
    simp [Act.eval,l]
  · simp only [invoke]
    rw [rk_callFunc]
    simp
  · refine (calls_wide (r:=none) hcall).mono fun e w' ⟨x,he,hx,hk,fp',hn',hs',hf'⟩=>?_
    subst he
    obtain ⟨g1,g2,rfl,hrec,hown⟩:=hs'
    obtain ⟨rfl,hl⟩:=hrec
    have hl':w'.heap[l]? = some (recL rc (st x) (pd x)):=hl
    refine ⟨pd x,w'.putObj l (recL rc .exhausted (pd x)),run_endLoop (r:={ rc with state:=st x,pending:=pd x }) hl' (hst x),?_⟩
    -- the state behind it all
    obtain ⟨n1,n2,n12⟩:=List.nodup_append.1 hn
    have hlt:∀ b ∈ f2,b < w1.heap.size:=fun b hb'=>let ⟨o,ho⟩:=h2.own b hb';hp_lt ho
    have hm5:Mem c (blk l (recL rc (st x) (pd x)) :: (own l rc x++(rest++mks (w.heap.size :: D)))) w':=by
      refine ⟨?_,(([l]++g2)++f2),?_,?_,?_⟩
      · refine ⟨hk.os.trans k4.os,hk.tape.trans k4.tape,hk.output.trans k4.output,Nat.le_trans k4.size hk.size,fun b hb' hm=>?_⟩
        rw [← k4.block b hb' hm]
        refine hk.block b (Nat.lt_of_lt_of_le hb' k4.size) (fun hf=>?_)
        rcases hb b (List.mem_append_left _ hf) with h | h
        · omega
        · exact hm h
      · refine List.nodup_append.2 ⟨hn',n2,fun x hx y hy e=>?_⟩
        subst e
        rcases hf' x hx with h | h
        · exact n12 x h x hy rfl
        · have:=hlt x hy;omega
      · rw [List.append_assoc]
        exact ⟨[l],g2++f2,rfl,⟨rfl,hl⟩,Sats.append_iff.2 ⟨g2,f2,rfl,hown,h2.loc fun b hb'=>hk.block b (hlt b hb') (fun hf=>n12 b hf b hb' rfl)⟩⟩
      · intro b hb'
        rcases List.mem_append.1 hb' with h | h
        · rcases hf' b h with h | h
          · exact hb b (List.mem_append_left _ h)
          · exact .inl (Nat.le_trans k4.size h)
        · exact hb b (List.mem_append_right _ h)
    have hm6:Mem c ((own l rc x++rest)++mks (w.heap.size :: D)) (w'.putObj l (recL rc .exhausted (pd x))):=by
      have:=(Mem.store hm5 (w':=w'.putObj l (recL rc .exhausted (pd x))) ⟨rfl,rfl,rfl,by simp,fun k _ hn=>World.putObj_heap_other (by simpa using hn)⟩ (World.putObj_heap_same (hp_lt (w:=w') hl'))).dropHead
      rwa [List.append_assoc]
    have hst':St c (w.heap.size :: D) sl (own l rc x++rest) { a with defers:=[{ target:=.collected w.heap.size,args:=#[] }]++a.defers } (w'.putObj l (recL rc .exhausted (pd x))):=
      ⟨hm6,hs0.slots,hs0.size,by simp [hs0.defers,mark]⟩
    cases hj:pd x with
    | none=>rw [hj] at hst';exact kn l rc x w.heap.size hx hj _ _ hst'
    | some j=>rw [hj] at hst';exact kj l rc x w.heap.size j hx hj _ _ hst'
end
end Go.SL
namespace Go.SL
open Go
section
variable {P:Program} {c:Cx} {sl:Slots} {hs:List Asn} {dst:Option Tmp} {ty:TypeId} {pos:String} {af:Array Edge} {g:Option (Nat × Bool)}
theorem elem_of {t e:TypeId} (hu:Und P t (.slice e)):P.elem t = e:=by simp [Program.elem,hu.eq]
theorem slice_und {t e:TypeId} (hu:Und P t (.slice e)):P.underlying t = some (.slice (P.elem t)):=by rw [elem_of hu];exact hu.eq
theorem value_of {i:Sem Value} {v:Value} {w:World} (h:i.run P w = .ok v w):(do let x ← i;pure (Next.value x):Sem Next).run P w = .ok (.value v) w:=by
  rw [Sem.run_bind,h];rfl
theorem rk_slice_h {t e:TypeId} {n:Nat} {agg:Bool} {x y:Operand} {a:Option Addr} {len cap:Nat} {k:IntKind} {h:Int} [hu:Und P t (.slice e)] [Ty P e agg n] (hx:Is sl x (.slice a len cap)) (hy:Is sl y (.int k h)) (h0:0 ≤ h) (h1:h ≤ cap) :
    RunV P c sl hs ⟨dst,.slice t x none (some y) none,ty,pos,af,g⟩ (sliced a 0 h.toNat cap n):=
  ⟨by simp,fun ac w ha _=>by
    have:=run_slice_h (P:=P) w t a len cap (slice_und hu) k h h0 h1
    simp only [execOp,hx ac ha,hy ac ha,Option.map]
    refine value_of ?_
    rw [run_sliceAt_slice _ _ _ _ _ _ (slice_und hu),this,elem_of hu,rk_sizeOf (n:=n) (agg:=agg)]
    rfl⟩
theorem rk_slice_l {t e:TypeId} {n:Nat} {agg:Bool} {x y:Operand} {a:Option Addr} {len cap:Nat} {k:IntKind} {h:Int} [hu:Und P t (.slice e)] [Ty P e agg n] (hx:Is sl x (.slice a len cap)) (hy:Is sl y (.int k h)) (h0:0 ≤ h) (h1:h ≤ len) :
    RunV P c sl hs ⟨dst,.slice t x (some y) none none,ty,pos,af,g⟩ (sliced a h.toNat len cap n):=
  ⟨by simp,fun ac w ha _=>by
    have:=run_slice_l (P:=P) w t a len cap (slice_und hu) k h h0 h1
    simp only [execOp,hx ac ha,hy ac ha,Option.map]
    refine value_of ?_
    rw [run_sliceAt_slice _ _ _ _ _ _ (slice_und hu),this,elem_of hu,rk_sizeOf (n:=n) (agg:=agg)]
    rfl⟩
theorem rk_loadB {t:TypeId} {n:Nat} {x:Operand} {b o:Nat} {cs vs:List Value} {E:TypeId} {fz:Nat × Nat} {hs':List Asn} [Ty P t true n] (hx:Is sl x (.pointer (some ⟨b,o,none⟩))) (ht:Take hs (SL.blk b (.cells cs.toArray E fz)) hs') (hv:cellsAt cs o n = vs) (hl:vs.length = n) :
    RunV P c sl hs ⟨dst,.load t x,ty,pos,af,g⟩ (.agg vs.toArray):=rk_loadN hx (Ats.blk ht hv) hl
theorem tr_appendB {r:Option Nat} {D:List Nat} {ops:Array Oper} {Q:Exit → Act → World → Prop} {d:Nat} {rest:List Oper} {hs' hs2:List Asn} {t e:TypeId} {agg:Bool} {size bytes:Nat} {z:Value} {x y:Operand} {v:Value} {n b o m cp:Nat} {xs news cs:List Value} {E:TypeId} {fz:Nat × Nat} [Und P t (.slice e)] [Ty P e agg size] [Zer P e z] [Byt P e bytes]
    (hx:Is sl x v) (hy:Is sl y (.slice (some ⟨b,o,none⟩) m cp)) (ht:Take hs (row e size v n xs) hs') (ht2:Take hs (SL.blk b (.cells cs.toArray E fz)) hs2) (hv:cellsAt cs o (m * size) = news) (hl:news.length = m * size) (h1:∀ u ∈ news,u.oneCell' = true) (hz:z.cells.size = size) (hsz:Nat.blt 0 size = true) (hb0:Nat.blt 0 bytes = true)
    (hb:(n + m) * bytes ≤ 140737488355328) (hd:Nat.blt d c.nt = true)
    (k:∀ v',Tr c D ((d,v') :: sl) (row e size v' (n + m) (xs++news) :: hs') (WL P r ops Q rest)) :
    Tr c D sl hs (WL P r ops Q (⟨some d,.call ⟨.builtin .append,#[x,y],#[t,t]⟩,ty,pos,af,none⟩ :: rest)):=
  tr_append hx hy ht (Ats.blk ht2 hv) hl h1 hz hsz hb0 hb hd k
theorem ends1cB {fn:Func} {t:Tmp} {T:TypeId} {b o n:Nat} {cs vs:List Value} {E:TypeId} {fz:Nat × Nat} {hs':List Asn} (h:fn.results = #[.cell t T]) (hT:Ty P T true n) (hp:sget sl t = some (.pointer (some ⟨b,o,none⟩))) (ht:Take hs (SL.blk b (.cells cs.toArray E fz)) hs') (hv:cellsAt cs o n = vs) (hl:vs.length = n):Ends P fn c sl hs (.agg vs.toArray):=
  ends1cN h hp (Ats.blk ht hv) hl
theorem tr_gOn {r:Option Nat} {D:List Nat} {ops:Array Oper} {Q:Exit → Act → World → Prop} {d:Option Tmp} {op:Op} {rest:List Oper} {j gs:Nat} {want:Bool} (hj:((ops[j]?).bind (·.dst)) = some gs) (hq:sget sl gs = some (.bool want))
    (k:Tr c D sl hs (WL P r ops Q (⟨d,op,ty,pos,af,none⟩ :: rest))):Tr c D sl hs (WL P r ops Q (⟨d,op,ty,pos,af,some (j,want)⟩ :: rest)):=fun a w hst=>by
  have h:=k a w hst
  unfold WL at h ⊢
  rw [if_pos (by simp [Region.wanted])] at h
  rw [wanted_gv (o:=⟨d,op,ty,pos,af,some (j,want)⟩) (c0:=true) rfl hj hst.slots (by rw [hq];rfl),if_pos (by simp)]
  exact h
theorem Rd.sliced {w:World} {a:Option Addr} {len cap sz:Nat} {xs:List (List Value)} (h:Rd w (.slice a len cap) sz xs) {l m:Nat} (hl:l ≤ m) (hm:m ≤ len):Rd w (Go.sliced a l m cap sz) sz ((xs.take m).drop l):=by
  obtain ⟨a',cap',b,o,e,h1,h2,h3,h4⟩:=h
  cases e
  have e:((xs.take m).drop l).length = m - l:=by simp;omega
  by_cases hc:cap = l
  · refine ⟨a,cap - l,b,o,?_,by omega,by omega,fun hn=>?_,fun i r hr=>?_⟩
    · simp [Go.sliced,hc,e]
    · exact absurd (List.eq_nil_of_length_eq_zero (by omega)) hn
    · have:=(List.getElem?_eq_some_iff.1 hr).1;omega
  · refine ⟨a.map (·.add (l * sz)),cap - l,b,o + l * sz,?_,by omega,by omega,fun hn=>?_,fun i r hr=>?_⟩
    · simp [Go.sliced,hc,e]
    · have hx:xs ≠ []:=by intro e;subst e;simp at hn
      rw [h3 hx]
      by_cases e0:l * sz = 0
      · simp [Addr.add,e0]
      · simp [Addr.add,e0]
    · rw [List.getElem?_drop,List.getElem?_take] at hr
      split at hr
      · obtain ⟨q1,q2⟩:=h4 _ _ hr
        refine ⟨q1,fun j u hu=>?_⟩
        have:=q2 j u hu
        rw [show o + l * sz + i * sz + j = o + (l + i) * sz + j by rw [Nat.add_mul];omega]
        exact this
      · simp at hr
end
end Go.SL
