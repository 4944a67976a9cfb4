/- Parts of the proof: GkCopy GkPool S32 GkMapR. -/
import Derived.Test.YtfbgbipclgljaaaGreatDoorWM05
import Derived.Lib.AppendZerosOnto
import Derived.Test.YtfbgbipclgljaaaGreatDoorWM12
import Derived.Test.YtfbgbipclgljaaaGreatDoorWM06
import Derived.Laws.IdiomRangeMap
set_option linter.unusedSectionVars false
set_option linter.unusedVariables false
set_option linter.unusedSimpArgs false
namespace Go.SL
open Go
theorem flat_cells {w:World} {b sz:Nat}:∀ {xs:List (List Value)} {o:Nat},(∀ i r,xs[i]? = some r → r.length = sz ∧ ∀ j u,r[j]? = some u → w.cell? ⟨b,o + i * sz + j,none⟩ = some u) → ∀ (k:Nat) u,xs.flatten[k]? = some u → w.cell? ⟨b,o + k,none⟩ = some u
  | [],o,_,k,u,hu=>by simp at hu
  | x :: xs, o, h, k, u, hu => by
    obtain ⟨hl,h0⟩:=h 0 x rfl
    rw [List.flatten_cons,List.getElem?_append] at hu
    split at hu
    · have:=h0 k u hu
      rwa [Nat.zero_mul,Nat.add_zero] at this
    · rename_i hk
      have ih:=flat_cells (xs:=xs) (o:=o + sz) (fun i r hr=>⟨(h (i + 1) r (by simpa using hr)).1,fun j v hv=>by
        have:=(h (i + 1) r (by simpa using hr)).2 j v hv
        rwa [Nat.succ_mul,show o + (i * sz + sz) + j = o + sz + i * sz + j by omega] at this⟩) (k - x.length) u hu
      rwa [hl,show o + sz + (k - sz) = o + k by omega] at ih
theorem flat_len {sz:Nat}:∀ {xs:List (List Value)},(∀ r ∈ xs,r.length = sz) → xs.flatten.length = xs.length * sz
  | [],_=>by simp
  | x :: xs, h => by
    rw [List.flatten_cons,List.length_append,flat_len (fun r hr=>h r (by simp [hr])),h x (by simp),List.length_cons,Nat.succ_mul,Nat.add_comm]
theorem Rd.sz {w:World} {v:Value} {sz:Nat} {xs:List (List Value)} (h:Rd w v sz xs):∀ r ∈ xs,r.length = sz:=by
  obtain ⟨a,cap,b,o,rfl,h1,h2,h3,h4⟩:=h
  intro r hr
  obtain ⟨i,hi,rfl⟩:=List.getElem_of_mem hr
  exact (h4 i _ (List.getElem?_eq_getElem hi)).1
section
variable {P:Program} {r:Option Nat} {c:Cx} {D:List Nat} {sl:Slots} {hs hs':List Asn} {ops:Array Oper} {Q:Exit → Act → World → Prop} {d:Nat} {ty:TypeId} {pos:String} {af:Array Edge} {rest:List Oper}
theorem src_ats {V:Value} {sz:Nat} {xs:List (List Value)} {b o cap:Nat} (hsrc:∀ w,Mem c hs w → Rd w V sz xs) (hne:xs ≠ []) (hV:V = .slice (some ⟨b,o,none⟩) xs.length cap):Ats c hs b o xs.flatten:=by
  refine Ats.of_get fun j u hu w hm=>?_
  obtain ⟨a',cap',b',o',e',_,_,ha',hc'⟩:=hsrc w hm
  rw [hV] at e'
  simp only [Value.slice.injEq] at e'
  obtain ⟨e1,_,_⟩:=e'
  have:=ha' hne
  rw [← e1] at this
  simp only [Option.some.injEq,Addr.mk.injEq,and_true] at this
  obtain ⟨rfl,rfl⟩:=this
  exact flat_cells hc' j u hu
theorem run_append0 {t e:TypeId} {w:World} {v:Value} {agg:Bool} {size:Nat} [hu:Und P t (.slice e)] [hT:Ty P e agg size] {a:Option Addr} {cp n:Nat} (hv:(v = .slice none 0 0 ∧ n = 0) ∨ ∃ g cap,v = .slice (some ⟨g,0,none⟩) n cap ∧ n ≤ cap) :
    (Builtin.append_ #[t,t] ty #[v,.slice a 0 cp]).run P w = .ok v w:=by
  obtain ⟨de,i,hde,hi,_,hsize⟩:=Ty.parts (P:=P) (t:=e) (agg:=agg) (n:=size)
  rcases hv with ⟨rfl,rfl⟩ | ⟨g,cap,rfl,hc⟩
  · cases a <;> simp [Builtin.append_,rk_underlying hu.eq,sizeOf,typeInfo,hi,Builtin.lenOf,Builtin.firstCells,loadCells,loadCellsFrom]
  · cases a <;> simp [Builtin.append_,rk_underlying hu.eq,sizeOf,typeInfo,hi,Builtin.lenOf,Builtin.firstCells,loadCells,loadCellsFrom,hc,storeCells]
theorem tr_appendR {t e:TypeId} {agg:Bool} {size bytes:Nat} {z:Value} {x y:Operand} {v V:Value} {n:Nat} {xs:List Value} {news:List (List Value)} [hu:Und P t (.slice e)] [hT:Ty P e agg size] [hZ:Zer P e z] [hB:Byt P e bytes]
    (hx:Is sl x v) (hy:Is sl y V) (ht:Take hs (row e size v n xs) hs') (hsrc:∀ w,Mem c hs w → Rd w V size news) (h1:∀ r ∈ news,∀ u ∈ r,u.oneCell' = true) (hz:z.cells.size = size) (hsz:Nat.blt 0 size = true) (hb0:Nat.blt 0 bytes = true)
    (hb:(n + news.length) * bytes ≤ 140737488355328) (hd:Nat.blt d c.nt = true)
    (k:∀ v',Tr c D ((d,v') :: sl) (row e size v' (n + news.length) (xs++news.flatten) :: hs') (WL P r ops Q rest)) :
    Tr c D sl hs (WL P r ops Q (⟨some d,.call ⟨.builtin .append,#[x,y],#[t,t]⟩,ty,pos,af,none⟩ :: rest)):=fun a w hst=>by
  have hR:=hsrc w hst.mem'
  have hlen:=flat_len hR.sz
  by_cases hne:news = []
  · subst hne
    obtain ⟨aa,cap,b,o,rfl,_⟩:=hR
    have hm:=hst.mem.take (ht.append _)
    have hrow:(v = .slice none 0 0 ∧ n = 0) ∨ ∃ g cap,v = .slice (some ⟨g,0,none⟩) n cap ∧ n ≤ cap:=by
      obtain ⟨_,fp,_,⟨f1,f2,_,⟨_,_,h1⟩,_⟩,_⟩:=hm
      exact h1.imp id fun ⟨g,cap,cur,e,_,hc,_⟩=>⟨g,cap,e,hc⟩
    refine wl_op rfl ⟨fr_about _ _ _ _ _,?_⟩
    rw [Oper.semAt_eq _ _ _ (by simp)]
    have:(execOp a.eval ⟨some d,.call ⟨.builtin .append,#[x,y],#[t,t]⟩,ty,pos,af,none⟩).run P w = .ok (.value v) w:=by
      have:=run_append0 (P:=P) (t:=t) (e:=e) (ty:=ty) (w:=w) (agg:=agg) (size:=size) (a:=aa) (cp:=cap) hrow
      simp only [List.length_nil] at hy
      simp [execOp,resolve,invoke,builtin,hx a hst.slots,hy a hst.slots,this]
    rw [this]
    have k2:=k v
    simp only [List.length_nil,Nat.add_zero,List.flatten_nil,List.append_nil] at k2
    exact k2 _ _ ((hst.put (by simpa [Nat.blt_eq] using hd) v).heap hm)
  · obtain ⟨aa,cap,b,o,hV,hcap,hmax,ha,hc⟩:=hR
    have:=ha hne
    subst this
    rw [hV] at hy
    exact tr_append hx hy ht (src_ats hsrc hne hV) hlen (fun u hu=>by obtain ⟨r,hr,hur⟩:=List.mem_flatten.1 hu;exact h1 r hr u hur) hz hsz hb0 hb hd k a w hst
theorem tr_copyR {t t2 e:TypeId} {agg:Bool} {size:Nat} {x y:Operand} {V:Value} {g n cap:Nat} {E:TypeId} {cs:List Value} {news:List (List Value)} [hu:Und P t (.slice e)] [hT:Ty P e agg size]
    (hx:Is sl x (.slice (some ⟨g,0,none⟩) n cap)) (hy:Is sl y V) (ht:Take hs (blk g (.cells cs.toArray E (0,0))) hs') (hsrc:∀ w,Mem c hs w → Rd w V size news) (h1:∀ r ∈ news,∀ u ∈ r,u.oneCell' = true) (hfit:n * size ≤ cs.length) (hd:Nat.blt d c.nt = true)
    (k:Tr c D ((d,.int .i64 (Nat.min news.length n:Nat)) :: sl) (blk g (.cells (setCells cs 0 (news.take n).flatten).toArray E (0,0)) :: hs') (WL P r ops Q rest)) :
    Tr c D sl hs (WL P r ops Q (⟨some d,.call ⟨.builtin .copy,#[x,y],#[t,t2]⟩,ty,pos,af,none⟩ :: rest)):=fun a w hst=>by
  have hR:=hsrc w hst.mem'
  obtain ⟨de,i,hde,hi,_,hsize⟩:=Ty.parts (P:=P) (t:=e) (agg:=agg) (n:=size)
  have hlen:(news.take n).flatten.length = Nat.min news.length n * size:=by
    rw [flat_len (fun r hr=>hR.sz r (List.mem_of_mem_take hr)),List.length_take]
    show min n news.length * size = min news.length n * size
    rw [Nat.min_comm]
  have hle:Nat.min news.length n ≤ n:=Nat.min_le_right _ _
  have hm:=hst.mem.take (ht.append _)
  have hg:w.heap[g]? = some (.cells cs.toArray E (0,0)):=hm.blk .here
  obtain ⟨w',h3,h4,h5⟩:=rk_storeCells (P:=P) (o:=0) (news.take n).flatten 0 cs w hg (fun u hu=>by
    obtain ⟨r,hr,hur⟩:=List.mem_flatten.1 hu
    exact h1 r (List.mem_of_mem_take hr) u hur) (by
    rw [hlen]
    have:Nat.min news.length n * size ≤ n * size:=Nat.mul_le_mul_right _ hle
    omega)
  have hload:(Builtin.firstCells size (Nat.min news.length n) V).run P w = .ok (news.take n).flatten.toArray w:=by
    obtain ⟨aa,cap2,b,o,hV,hcap2,hmax,ha,hc⟩:=hR
    subst hV
    by_cases hne:news = []
    · subst hne
      cases aa <;> simp [Builtin.firstCells,loadCells,loadCellsFrom]
    · have:=ha hne
      subst this
      simp only [Builtin.firstCells]
      refine rk_loadCells hlen fun j u hu=>?_
      refine flat_cells (sz:=size) (xs:=news.take n) (fun i r hr=>?_) j u hu
      rw [List.getElem?_take] at hr
      split at hr
      · exact hc i r hr
      · cases hr
  have hlenV:(Builtin.lenOf V).run P w = .ok news.length w:=by
    obtain ⟨aa,cap2,b,o,hV,_⟩:=hR
    subst hV
    rfl
  refine wl_op rfl ⟨fr_about _ _ _ _ _,?_⟩
  rw [Oper.semAt_eq _ _ _ (by simp)]
  have:(execOp a.eval ⟨some d,.call ⟨.builtin .copy,#[x,y],#[t,t2]⟩,ty,pos,af,none⟩).run P w = .ok (.value (.int .i64 (Nat.min news.length n:Nat))) w':=by
    simp [execOp,resolve,invoke,builtin,hx a hst.slots,hy a hst.slots,Builtin.copy_,rk_underlying hu.eq,hlenV,sizeOf,typeInfo,hi,hsize,hload,h3,goInt]
  rw [this]
  have hm2:=Mem.store hm h4 h5
  rw [show (0 + 0:Nat) = 0 from rfl] at hm2
  exact k _ _ ((hst.put (by simpa [Nat.blt_eq] using hd) _).heap hm2)
theorem tr_appendZ {t tn e:TypeId} {kn:IntKind} {agg:Bool} {size bytes m:Nat} {z:Value} {x y:Operand} [hu:Und P t (.slice e)] [hun:Und P tn (.int kn)] [hT:Ty P e agg size] [hZ:Zer P e z] [hB:Byt P e bytes]
    (hx:Is sl x (.slice none 0 0)) (hy:Is sl y (.int .i64 m)) (h0:0 < m) (hz:z.cells.size = size) (hsz:Nat.blt 0 size = true) (hb0:Nat.blt 0 bytes = true) (hb:m * bytes ≤ 140737488355328) (hd:Nat.blt d c.nt = true)
    (k:∀ v',Tr c D ((d,v') :: sl) (row e size v' m (Builtin.zeroCells z.cells m).toList :: hs) (WL P r ops Q rest)) :
    Tr c D sl hs (WL P r ops Q (⟨some d,.call ⟨.builtin .append,#[x,y],#[t,tn]⟩,ty,pos,af,none⟩ :: rest)):=fun a w hst=>by
  obtain ⟨de,i,hde,hi,_,hsize⟩:=Ty.parts (P:=P) (t:=e) (agg:=agg) (n:=size)
  have hzero:i.zero = some z:=by have:=hZ.eq;rw [hi] at this;simpa using this
  have hbytes:i.bytes = bytes:=by have:=hB.eq;rw [hi] at this;simpa using this
  have hs0:0 < size:=by simpa [Nat.blt_eq] using hsz
  have hb0':0 < bytes:=by simpa [Nat.blt_eq] using hb0
  have hm1:m * 1 ≤ m * bytes:=Nat.mul_le_mul_left _ hb0'
  have hrun:=Lib.run_append_grow_zeros (P:=P) w t tn ty e i z .i64 kn hu.eq hun.eq hi hzero none 0 0 [] (by simp [Builtin.firstCells]) m h0 (by omega) (by omega) (by omega) (by rw [hbytes];omega) (growslice_fits (by omega) (by rw [hbytes];simpa using hb))
  simp only [Nat.zero_add] at hrun
  have hge:=grownCap_ge w m 0 e
  have hle:=grownCap_le_maxLen w m 0 e (by unfold maxLen;omega)
  refine wl_op rfl ⟨fr_about _ _ _ _ _,?_⟩
  rw [Oper.semAt_eq _ _ _ (by simp)]
  generalize grownCap w m 0 e = G at hrun hge hle
  have:(execOp a.eval ⟨some d,.call ⟨.builtin .append,#[x,y],#[t,tn]⟩,ty,pos,af,none⟩).run P w = .ok (.value (.slice (some ⟨w.heap.size,0,none⟩) m G)) (w.drew.alloc (.cells (#[]++Builtin.zeroCells z.cells m++Builtin.zeroCells z.cells (G - m)) e)):=by
    simp [execOp,resolve,invoke,builtin,hx a hst.slots,hy a hst.slots,hrun]
  rw [this]
  have hsize0:∀ q,(Builtin.zeroCells z.cells q).size = q * size:=fun q=>by rw [size_zeroCells,hz]
  have hm2:=(hst.mem.drew.alloc (.cells (#[]++Builtin.zeroCells z.cells m++Builtin.zeroCells z.cells (G - m)) e (0,0)))
  refine k _ _ _ ((hst.put (by simpa [Nat.blt_eq] using hd) _).heap ?_)
  obtain ⟨kk,fp,hn,⟨f1,f2,rfl,⟨e1,h1⟩,h2⟩,hfb⟩:=hm2
  refine ⟨kk,f1++f2,hn,⟨f1,f2,rfl,⟨by rw [e1];rfl,by simp [hsize0],.inr ⟨w.heap.size,G,_,rfl,h1,hge,hle,?_,?_⟩⟩,h2⟩,hfb⟩
  · simp only [Array.size_append,hsize0]
    simp only [Array.size_empty,Nat.zero_add,← Nat.add_mul]
    congr 1;omega
  · simp only [Array.toList_append,Array.toList_empty,List.nil_append]
    rw [List.take_left' (by rw [Array.length_toList,hsize0])]
theorem rk_cap_slice {dst:Option Tmp} {g:Option (Nat × Bool)} {t e:TypeId} {x:Operand} {a:Option Addr} {n cp:Nat} [hu:Und P t (.slice e)] (hx:Is sl x (.slice a n cp)) :
    RunV P c sl hs ⟨dst,.call ⟨.builtin .cap,#[x],#[t]⟩,ty,pos,af,g⟩ (.int .i64 cp):=
  ⟨by simp,fun ac w ha _=>by simp [execOp,hx ac ha,resolve,invoke,builtin,Builtin.cap_,rk_underlying hu.eq,goInt]⟩
theorem sliced_zero (g cap sz:Nat):Go.sliced (some ⟨g,0,none⟩) 0 0 cap sz = .slice (some ⟨g,0,none⟩) 0 cap:=by
  unfold Go.sliced
  by_cases h:cap = 0
  · rw [if_pos h];simp
  · rw [if_neg h];simp [addr_add]
theorem setCells_pre:∀ (vs cs:List Value),vs.length ≤ cs.length → setCells cs 0 vs = vs++cs.drop vs.length:=by
  intro vs cs h
  apply List.ext_getElem?
  intro k
  rw [setCells_get _ _ _ _ (by omega),List.getElem?_append]
  by_cases hk:k < vs.length
  · rw [if_pos (by omega),if_pos hk,Nat.sub_zero]
  · rw [if_neg (by omega),if_neg hk,List.getElem?_drop]
    congr 1;omega
def relRd (sz:Nat) (rows:List (List Value)):Rel:=⟨fun v w=>Rd w v sz rows,fun h hk=>h.keeps hk⟩
theorem rd_of_gives {f:FuncId} {args:List Value} {w:World} {ι:Type} {Φ:ι → Prop} {val:ι → Value} {own:ι → List Asn} {E:TypeId} {sz n:Nat} {rows:List (List Value)} (h:Gives P f args w [] Φ val own) (ho:∀ x,own x = [row E sz (val x) n rows.flatten]) (hx:∀ r ∈ rows,r.length = sz) (hn:rows.length = n) :
    Calls P f args.toArray w fun e w'=>∃ v,e = .returned v ∧ Keeps [] w w' ∧ (relRd sz rows).p v w':=by
  refine Calls.mono h ?_
  rintro e w' ⟨x,he,_,hk,fp,hnd,hs,_⟩
  rw [ho x] at hs
  obtain ⟨f1,f2,_,h1,_⟩:=hs
  exact ⟨val x,he,hk,row_rd hx hn h1⟩
theorem any_callNR {rl:RSlots} {m:Nat} {op:Op} {f:FuncId} {t:Nat} {V:Nat → Value} {ob:Obj} {args:Nat → List Value} {R:Rel} (hm:(t,relNew V ob) ∈ rl) (ht:t ∈ Oper.looksAt ops ⟨some d,op,ty,pos,af,none⟩)
    (hr:∀ b,RunC P ((t,V b) :: sl) ⟨some d,op,ty,pos,af,none⟩ f (args b)) (hd:Nat.blt d c.nt = true) (hn:sget sl d = none)
    (hc:∀ b w,Mem c hs w → w.heap[b]? = some ob → Calls P f (args b).toArray w fun e w'=>∃ v,e = .returned v ∧ Keeps [] w w' ∧ R.p v w') (k:AnyT P r c D hs ops Q m rest sl ((d,R) :: rl)) :
    AnyT P r c D hs ops Q (m + 1) (⟨some d,op,ty,pos,af,none⟩ :: rest) sl rl:=
  any_stepR rfl hd hn (stepQ_of rfl fun a w h1 h2 h3=>by
    obtain ⟨v,hv,b,rfl,hb⟩:=h2 t _ hm ht
    have h1':SlotsOk ((t,V b) :: sl) a:=by
      intro t' v' hv'
      by_cases e:t = t'
      · subst e
        rw [sget_cons_eq] at hv'
        cases hv'
        exact hv
      · rw [sget_cons_ne e] at hv'
        exact h1 t' v' hv'
    unfold QRun
    rw [(hr b).2 a w h1']
    exact ⟨rfl,hc b w h3 hb⟩) k
theorem any_appendRR {rl:RSlots} {t e:TypeId} {agg:Bool} {size bytes:Nat} {z:Value} {x y:Nat} {n:Nat} {olds:List Value} {rows:List (List Value)} {E:TypeId} [hu:Und P t (.slice e)] [hT:Ty P e agg size] [hZ:Zer P e z] [hB:Byt P e bytes]
    (hx:(x,relNew (fun b=>.slice (some ⟨b,0,none⟩) n n) (.cells olds.toArray E (0,0))) ∈ rl) (hy:(y,relRd size rows) ∈ rl) (hne:rows ≠ []) (hl:olds.length = n * size) (h1:∀ r ∈ rows,∀ u ∈ r,u.oneCell' = true) (hz:z.cells.size = size) (hb0:Nat.blt 0 bytes = true)
    (hb:(n + rows.length) * bytes ≤ 140737488355328) (hd:Nat.blt d c.nt = true)
    (k:∀ v',Tr c D ((d,v') :: sl) (row e size v' (n + rows.length) (olds++rows.flatten) :: hs) (WL P r ops Q rest)) :
    AnyT P r c D hs ops Q 0 (⟨some d,.call ⟨.builtin .append,#[.tmp x,.tmp y],#[t,t]⟩,ty,pos,af,none⟩ :: rest) sl rl:=any_endR fun a w hst hrel=>by
  obtain ⟨de,i,hde,hi,_,hsize⟩:=Ty.parts (P:=P) (t:=e) (agg:=agg) (n:=size)
  have hzero:i.zero = some z:=by have:=hZ.eq;rw [hi] at this;simpa using this
  have hbytes:i.bytes = bytes:=by have:=hB.eq;rw [hi] at this;simpa using this
  have hb0':0 < bytes:=by simpa [Nat.blt_eq] using hb0
  obtain ⟨vx,hvx,bx,rfl,hbx⟩:=hrel x _ hx
  obtain ⟨vy,hvy,hR⟩:=hrel y _ hy
  have hsz:=Rd.sz hR
  obtain ⟨ay,capy,b,o,rfl,hcap,hmax,ha,hc⟩:=hR
  have:=ha hne
  subst this
  have hlen:=flat_len hsz
  have hpos:0 < rows.length:=List.length_pos_iff.2 hne
  have hm1:(n + rows.length) * 1 ≤ (n + rows.length) * bytes:=Nat.mul_le_mul_left _ hb0'
  have hex:a.eval (.tmp x) = .slice (some ⟨bx,0,none⟩) n n:=by simp [Act.eval,Array.getD_eq_getD_getElem?,hvx]
  have hey:a.eval (.tmp y) = .slice (some ⟨b,o,none⟩) rows.length capy:=by simp [Act.eval,Array.getD_eq_getD_getElem?,hvy]
  have hrun:=run_append_grow (P:=P) w t ty e i z hu.eq hi hzero ⟨bx,0,none⟩ n n olds (by rw [hsize];exact hl) (fun j v hv=>by
      rw [addr_add,cell_of_block hbx,Nat.zero_add];simpa using hv) ⟨b,o,none⟩ rows.length capy rows.flatten (by rw [hsize];exact hlen) (fun j v hv=>by
      rw [addr_add];exact flat_cells hc j v hv) (by omega) (by omega) (growslice_fits (by omega) (by rw [hbytes];exact hb))
  have hge:=grownCap_ge w (n + rows.length) n e
  have hle:=grownCap_le_maxLen w (n + rows.length) n e (by unfold maxLen;omega)
  refine wl_op rfl ⟨fr_about _ _ _ _ _,?_⟩
  rw [Oper.semAt_eq _ _ _ (by simp)]
  generalize grownCap w (n + rows.length) n e = G at hrun hge hle
  have:(execOp a.eval ⟨some d,.call ⟨.builtin .append,#[.tmp x,.tmp y],#[t,t]⟩,ty,pos,af,none⟩).run P w = .ok (.value (.slice (some ⟨w.heap.size,0,none⟩) (n + rows.length) G)) (w.drew.alloc (.cells (olds.toArray++rows.flatten.toArray++Builtin.zeroCells z.cells (G - (n + rows.length))) e)):=by
    simp [execOp,resolve,invoke,builtin,hex,hey,hrun]
  rw [this]
  have hsize0:∀ q,(Builtin.zeroCells z.cells q).size = q * size:=fun q=>by rw [size_zeroCells,hz]
  have hm2:=(hst.mem.drew.alloc (.cells (olds.toArray++rows.flatten.toArray++Builtin.zeroCells z.cells (G - (n + rows.length))) e (0,0)))
  refine k _ _ _ ((hst.put (by simpa [Nat.blt_eq] using hd) _).heap ?_)
  obtain ⟨kk,fp,hn',⟨f1,f2,rfl,⟨e1,h1'⟩,h2⟩,hfb⟩:=hm2
  have hlo:(olds++rows.flatten).length = (n + rows.length) * size:=by rw [List.length_append,hl,hlen,Nat.add_mul]
  refine ⟨kk,f1++f2,hn',⟨f1,f2,rfl,⟨by rw [e1];rfl,hlo,.inr ⟨w.heap.size,G,_,rfl,h1',hge,hle,?_,?_⟩⟩,h2⟩,hfb⟩
  · simp only [Array.size_append,hsize0,List.size_toArray]
    rw [← List.length_append,hlo,← Nat.add_mul]
    congr 1;omega
  · simp only [Array.toList_append,← List.append_assoc]
    rw [List.take_left' hlo]
end
end Go.SL
namespace Go.SL
open Go
def stA (As:List Asn):Asn where
  sat h fp:=Sats h As fp
  loc:=fun hs hb=>hs.loc hb
  own:=fun hs b hb=>hs.own b hb
def noA:Asn where
  sat _ _:=False
  loc:=fun h _=>h
  own:=fun h=>h.elim
def poolL (E:TypeId):List Value → List (List Value) → List Asn
  | v :: vs,x :: xs=>row E 1 v x.length x :: poolL E vs xs
  | _,_=>[]
def pool (E:TypeId) (vs:List Value) (xs:List (List Value)):Asn:=stA (poolL E vs xs)
theorem poolL_get {E:TypeId} {v:Value} {x:List Value}:∀ {vs:List Value} {xs:List (List Value)} {j:Nat},vs[j]? = some v → xs[j]? = some x → ∃ r,Take (poolL E vs xs) (row E 1 v x.length x) r
  | [],_,j,h,_=>by simp at h
  | _ :: _,[],j,_,h=>by simp at h
  | v' :: vs, x' :: xs, 0, h1, h2 => by
    simp only [List.getElem?_cons_zero,Option.some.injEq] at h1 h2
    subst h1 h2
    exact ⟨_,.here⟩
  | v' :: vs, x' :: xs, j + 1, h1, h2 => by
    simp only [List.getElem?_cons_succ] at h1 h2
    obtain ⟨r,hr⟩:=poolL_get h1 h2
    exact ⟨_,.there hr⟩
theorem poolL_add {E:TypeId} {v:Value} {x:List Value}:∀ {vs:List Value} {xs:List (List Value)},vs.length = xs.length → poolL E (vs++[v]) (xs++[x]) = poolL E vs xs++[row E 1 v x.length x]
  | [],[],_=>rfl
  | [],_ :: _,h=>by simp at h
  | _ :: _,[],h=>by simp at h
  | v' :: vs, x' :: xs, h => by
    simp only [List.length_cons,Nat.add_right_cancel_iff] at h
    simp only [List.cons_append,poolL,poolL_add h]
theorem Mem.rdPool {c:Cx} {hs hs':List Asn} {w:World} {E:TypeId} {vs:List Value} {xs:List (List Value)} {j:Nat} {v:Value} {x:List Value} (hm:Mem c hs w) (ht:Take hs (pool E vs xs) hs') (hv:vs[j]? = some v) (hx:xs[j]? = some x):Rd w v 1 (x.map fun u=>[u]):=by
  obtain ⟨k,fp,hn,⟨f1,f2,rfl,h1,h2⟩,hb⟩:=hm.take ht
  have hm2:Mem c (poolL E vs xs++hs') w:=⟨k,f1++f2,hn,Sats.append_iff.2 ⟨f1,f2,rfl,h1,h2⟩,hb⟩
  obtain ⟨r,hr⟩:=poolL_get (E:=E) hv hx
  exact hm2.rdRow1 (hr.append hs') rfl
section
variable {P:Program} {r:Option Nat} {c:Cx} {D:List Nat} {sl:Slots} {hs hs':List Asn} {X:Act → World → Prop} {Q:Exit → Act → World → Prop} {ι:Type}
variable {ops:Array Oper} {d:Nat} {ty:TypeId} {pos:String} {af:Array Edge} {rest:List Oper}
theorem tr_poolAdd {E:TypeId} {vs:List Value} {xs:List (List Value)} {v:Value} {x:List Value} {n:Nat} {h1 h2:List Asn} (ht:Take hs (pool E vs xs) h1) (ht2:Take h1 (row E 1 v n x) h2) (hn:n = x.length) (hl:vs.length = xs.length)
    (k:Tr c D sl (pool E (vs++[v]) (xs++[x]) :: h2) X):Tr c D sl hs X:=fun a w hst=>by
  subst hn
  have hT:Takes hs [pool E vs xs,row E 1 v x.length x] h2:=.cons ht (.cons ht2 .nil)
  have hm:=hst.mem.takes (hT.append (mks D))
  obtain ⟨kk,fp,hn',⟨f1,f2',rfl,g1,⟨f2,f3,rfl,g2,g3⟩⟩,hb⟩:=hm
  refine k a w (hst.heap ⟨kk,(f1++f2)++f3,by rw [List.append_assoc];exact hn',⟨f1++f2,f3,rfl,?_,g3⟩,by rw [List.append_assoc];exact hb⟩)
  show Sats (hp w) (poolL E (vs++[v]) (xs++[x])) (f1++f2)
  rw [poolL_add hl]
  exact Sats.append_iff.2 ⟨f1,f2,rfl,g1,⟨f2,[],by simp,g2,rfl⟩⟩
theorem tr_poolNil (E:TypeId) (k:Tr c D sl (pool E [] [] :: hs) X):Tr c D sl hs X:=fun a w hst=>
  k a w (hst.heap (Mem.change (As := []) (Bs := [pool E [] []]) hst.mem fun fp _ hf => by
    rw [show fp = [] from hf]
    exact ⟨.refl _ _,[],List.nodup_nil,⟨[],[],rfl,rfl,rfl⟩,by simp⟩))
theorem tr_stOpen {As:List Asn} (ht:Take hs (stA As) hs') (k:Tr c D sl (As++hs') X):Tr c D sl hs X:=fun a w hst=>by
  obtain ⟨kk,fp,hn,⟨f1,f2,rfl,h1,h2⟩,hb⟩:=hst.mem.take (ht.append _)
  exact k a w (hst.heap ⟨kk,f1++f2,hn,by rw [List.append_assoc];exact Sats.append_iff.2 ⟨f1,f2,rfl,h1,h2⟩,hb⟩)
theorem tr_stShut {As:List Asn} (ht:Takes hs As hs') (k:Tr c D sl (stA As :: hs') X):Tr c D sl hs X:=fun a w hst=>by
  obtain ⟨kk,fp,hn,hsat,hb⟩:=hst.mem.takes (ht.append (mks D))
  obtain ⟨f1,f2,rfl,h1,h2⟩:=Sats.append_iff.1 hsat
  exact k a w (hst.heap ⟨kk,f1++f2,hn,⟨f1,f2,rfl,h1,h2⟩,hb⟩)
theorem tr_noA (ht:Take hs noA hs'):Tr c D sl hs X:=fun a w hst=>by
  obtain ⟨kk,fp,hn,⟨f1,f2,rfl,h1,h2⟩,hb⟩:=hst.mem.take (ht.append _)
  exact h1.elim
theorem YieldsB.conv {l:Nat} {args:List Value} {w0:World} {md:List Nat} {pre pre':Asn} {post post':Bool → Asn} (h:YieldsB P l args w0 md pre post) (h1:∀ g fp,pre'.sat g fp → pre.sat g fp) (h2:∀ b g fp,(post b).sat g fp → (post' b).sat g fp):YieldsB P l args w0 md pre' post':=by
  intro W fp hk hb hn hs
  obtain ⟨f,tmps,asg,body,e,hr⟩:=h W fp hk hb hn (h1 _ _ hs)
  exact ⟨f,tmps,asg,body,e,hr.mono fun e w' ⟨b,he,hk',fp',hn',hs',hf'⟩=>⟨b,he,hk',fp',hn',h2 _ _ _ hs',hf'⟩⟩
def YP (P:Program) (l:Nat) (w0:World) (md:List Nat) (E:TypeId) (items:List (List Value)) (J:List Value → Asn):Prop:=
  ∀ vs v,vs.length < items.length → YieldsB P l [v] w0 md (stA [J vs,pool E (vs++[v]) (items.take (vs.length + 1))]) (fun b=>bif b then stA [J (vs++[v]),pool E (vs++[v]) (items.take (vs.length + 1))] else noA)
def IterP (P:Program) (f:FuncId) (first cap:List Value) (own:List Asn) (E:TypeId) (items:List (List Value)) (w0:World) (md:List Nat) (w:World):Prop:=
  ∀ (l : Nat) (fp : List Nat) (J : List Value → Asn), Keeps md w0 w → (∀ b ∈ fp, b ∈ md ∨ w0.heap.size ≤ b) → fp.Nodup → Sats (hp w) (J [] :: own) fp → YP P l w0 md E items J →
    Gives P f (first++[.func (.yield l) #[] #[]]++cap) w fp (fun vs:List Value=>vs.length = items.length) (fun _=>.tuple #[]) (fun vs=>J vs :: pool E vs items :: own)
theorem tr_yieldP {x:Operand} {xs:List Operand} {ts:Array TypeId} {l:Nat} {w0:World} {md:List Nat} {E:TypeId} {items:List (List Value)} {J:List Value → Asn} {vs:List Value} {v:Value} (hY:YP P l w0 md E items J) (hB:Keeps md w0 c.w0) (hF:∀ b ∈ c.md,b ∈ md ∨ w0.heap.size ≤ b) (hlt:vs.length < items.length)
    (hx:Is sl x (.func (.yield l) #[] #[])) (ha:Iss sl xs [v]) (hd:Nat.blt d c.nt = true) (ht:Takes hs [J vs,pool E (vs++[v]) (items.take (vs.length + 1))] hs')
    (k:Tr c D ((d,.bool true) :: sl) (J (vs++[v]) :: pool E (vs++[v]) (items.take (vs.length + 1)) :: hs') (WL P r ops Q rest)):Tr c D sl hs (WL P r ops Q (⟨some d,.call ⟨.value x,xs.toArray,ts⟩,ty,pos,af,none⟩ :: rest)):=by
  refine tr_stShut ht (tr_yieldB hB hF (hY vs v hlt) hx ha hd .here fun b=>?_)
  cases b with
  | false=>exact tr_noA .here
  | true=>exact tr_stOpen .here k
def PoolPost (l:Nat) (rc:Loop) (Φ:List Value → ι → Prop) (A:ι → List Asn) (E:TypeId) (items:List (List Value)) (vs:List Value) (b:Bool):Asn:=
  bif b then exA (Φ vs) (fun x=>blk l (recL rc .ready none) :: (A x++[pool E vs (items.take vs.length)])) else noA
theorem tr_rangePool {g:Operand} {p:Tmp} {asg body:Code} {f:FuncId} {first cap:List Value} [Bod P f] (hg:Is sl g (.func (.func f) first.toArray cap.toArray))
    (own:List Asn) (E:TypeId) (items:List (List Value)) (hit:∀ w,Mem c hs w → IterP P f first cap own E items c.w0 c.md w)
    (Φ:List Value → ι → Prop) (A:ι → List Asn) (x0:ι) {rst:List Asn} (h0:Φ [] x0) (ht:Takes hs (A x0++own) rst) (hp':p < c.nt)
    (round:∀ l rc W fp vs v x,rc.tmps.size = c.nt → vs.length < items.length → Φ vs x → Keeps c.md c.w0 W → (∀ b ∈ fp,b ∈ c.md ∨ c.w0.heap.size ≤ b) →
      Tr ⟨W,fp,c.nt⟩ [] ((p,v) :: sl) (blk l (recL rc .ready none) :: (A x++[pool E (vs++[v]) (items.take (vs.length + 1))])) (WP P (some l) asg (Exit.then (Begins P l body (RoundR fp W (PoolPost l rc Φ A E items (vs++[v])))) (fun _ _ _=>False))))
    (kn:∀ x vs D,vs.length = items.length → Φ vs x → Tr c D sl (A x++pool E vs items :: own++rst) (Q .normal)) :
    Tr c D sl hs (WP P none (.rangeFunc g #[p] asg body) Q):=by
  refine tr_rangeFunc (ι:=ι × List Value) hg (As:=fun l rc=>blk l (recL rc .ready none) :: (A x0++own)) (rest:=rst)
    (Φ:=fun l rc x=>Φ x.2 x.1 ∧ x.2.length = items.length) (own:=fun l rc x=>A x.1++pool E x.2 items :: own)
    (st:=fun _=>.ready) (pd:=fun _=>none) ?_ ?_ ?_ ?_ ?_
  · exact fun l rc=>Takes.cons .here ht
  · intro x;simp
  · intro l rc hps' ha hbd hsl hsz w fp hm hn hs1 hfp
    have hfp':∀ b ∈ fp,b ∈ c.md ∨ c.w0.heap.size ≤ b:=fun b hb=>(hfp b hb).symm
    have hs2:Sats (hp w) (exA (Φ []) (fun x=>blk l (recL rc .ready none) :: A x) :: own) fp:=by
      rw [← List.cons_append] at hs1
      obtain ⟨f1,f2,rfl,h1,h2⟩:=Sats.append_iff.1 hs1
      exact ⟨f1,f2,rfl,⟨x0,h0,h1⟩,h2⟩
    refine (hit w hm.dropHead l fp (fun vs=>exA (Φ vs) (fun x=>blk l (recL rc .ready none) :: A x)) hm.keeps hfp' hn hs2 ?_).mono ?_
    · intro vs v hlt
      have hlen:(vs++[v]).length = vs.length + 1:=by simp
      refine YieldsB.conv (yieldsB_of (Φ:=Φ vs) (A:=fun x=>A x++[pool E (vs++[v]) (items.take (vs.length + 1))]) (post:=PoolPost l rc Φ A E items (vs++[v])) hsl hsz (by rw [hps'];rfl) (by rw [hps'];simpa using hp') ?_) ?_ ?_
      · intro x W fp2 hB hF hx
        have:=round l rc W fp2 vs v x hsz hlt hx hB hF
        rw [ha,hbd,hps']
        simpa [putAll] using this
      · rintro g fp ⟨f1,f2,rfl,⟨x,hx,h1⟩,h2⟩
        refine ⟨x,hx,?_⟩
        show Sats g ((blk l (recL rc .ready none) :: A x)++[pool E (vs++[v]) (items.take (vs.length + 1))]) _
        exact Sats.append_iff.2 ⟨f1,f2,rfl,h1,h2⟩
      · intro b g fp hb
        cases b with
        | false=>exact hb
        | true =>
          obtain ⟨x,hx,h1⟩:=hb
          have h1:Sats g ((blk l (recL rc .ready none) :: A x)++[pool E (vs++[v]) (items.take (vs++[v]).length)]) fp:=h1
          obtain ⟨f1,f2,rfl,h1,h2⟩:=Sats.append_iff.1 h1
          rw [hlen] at h2
          exact ⟨f1,f2,rfl,⟨x,hx,h1⟩,h2⟩
    · rintro e w' ⟨vs,he,hlen,hk,fp',hn',hs',hf'⟩
      obtain ⟨f1,f2,rfl,h1,h2⟩:=hs'
      obtain ⟨x,hx,h1⟩:=h1
      exact ⟨(x,vs),he,⟨hx,hlen⟩,hk,f1++f2,hn',by
        show Sats _ (blk l (recL rc .ready none) :: (A x++pool E vs items :: own)) _
        rw [← List.cons_append]
        exact Sats.append_iff.2 ⟨f1,f2,rfl,h1,h2⟩,hf'⟩
  · rintro l rc ⟨x,vs⟩ b ⟨hx,hl⟩ _
    exact kn x vs (b :: D) hl hx
  · rintro l rc ⟨x,vs⟩ b j _ hpd
    simp at hpd
theorem tr_poolN {nt:Nat} {W:World} {fp:List Nat} {l:Nat} {rc:Loop} {Φ:List Value → ι → Prop} {A:ι → List Asn} {E:TypeId} {items:List (List Value)} {vs:List Value} {s:LoopState} {p:Option Code} (x:ι) {rst rst2:List Asn}
    (ht:Take hs (blk l (recL rc s p)) rst) (hx:Φ vs x) (h2:Takes rst (A x++[pool E vs (items.take vs.length)]) rst2):Tr ⟨W,fp,nt⟩ D sl hs (roundPost P l (RoundR fp W (PoolPost l rc Φ A E items vs)) .normal):=
  tr_roundN (c:=⟨W,fp,nt⟩) (post:=PoolPost l rc Φ A E items vs) x rfl ht hx (Takes.cons .here h2)
theorem tr_callF {op:Op} {f:FuncId} {args:List Value} {As:List Asn} {Φ:ι → Prop} {val:ι → Value} {own:ι → List Asn} (hr:RunC P sl ⟨some d,op,ty,pos,af,none⟩ f args) (hd:Nat.blt d c.nt = true) (ht:Takes hs As hs')
    (hc:∀ w fp,Mem c hs w → fp.Nodup → Sats (hp w) As fp → (∀ b ∈ fp,b ∈ c.md ∨ c.w0.heap.size ≤ b) → (∀ b o h2,Take hs' (blk b o) h2 → b ∉ fp) → Gives P f args w fp Φ val own)
    (k:∀ x,Φ x → Tr c D ((d,val x) :: sl) (own x++hs') (WL P r ops Q rest)):Tr c D sl hs (WL P r ops Q (⟨some d,op,ty,pos,af,none⟩ :: rest)):=fun a w hst=>by
  have hm:=hst.mem.takes (ht.append (mks D))
  obtain ⟨kk,fp,hn,hsat,hb⟩:=hm
  obtain ⟨f1,f2,rfl,h1,h2⟩:=Sats.append_iff.1 hsat
  obtain ⟨n1,n2,n12⟩:=List.nodup_append.1 hn
  have hdis:∀ b o h3,Take hs' (blk b o) h3 → b ∉ f1:=fun b o h3 htk hbf=>by
    obtain ⟨g1,g2,⟨e1,_⟩,_,hp⟩:=Sats.take (htk.append (mks D)) h2
    have:b ∈ f2:=hp.mem_iff.2 (List.mem_append_left _ (by rw [e1];simp))
    exact n12 b hbf b this rfl
  refine wl_call rfl hr hst.slots (hc w f1 hst.mem' n1 h1 (fun b hb'=>(hb b (List.mem_append_left _ hb')).symm) hdis) fun e w' ⟨x,he,hx,hk,fp',hn',hs',hf'⟩=>⟨val x,he,k x hx _ _ ((hst.put (by simpa [Nat.blt_eq] using hd) (val x)).heap ?_)⟩
  have hlt:∀ b ∈ f2,b < w.heap.size:=fun b hb'=>let ⟨o,ho⟩:=h2.own b hb';hp_lt ho
  rw [List.append_assoc]
  refine ⟨?_,fp'++f2,?_,Sats.append_iff.2 ⟨fp',f2,rfl,hs',h2.loc fun b hb'=>?_⟩,?_⟩
  · refine ⟨hk.os.trans kk.os,hk.tape.trans kk.tape,hk.output.trans kk.output,Nat.le_trans kk.size hk.size,fun b hb' hm=>?_⟩
    rw [← kk.block b hb' hm]
    refine hk.block b (Nat.lt_of_lt_of_le hb' kk.size) (fun hf=>?_)
    rcases hb b (List.mem_append_left _ hf) with h | h
    · omega
    · exact hm h
  · refine List.nodup_append.2 ⟨hn',n2,fun x hx y hy e=>?_⟩
    subst e
    rcases hf' x hx with h | h
    · exact n12 x h x hy rfl
    · have:=hlt x hy;omega
  · exact hk.block b (hlt b hb') (fun hf=>n12 b hf b hb' rfl)
  · intro b hb'
    rcases List.mem_append.1 hb' with h | h
    · rcases hf' b h with h | h
      · exact hb b (List.mem_append_left _ h)
      · exact .inl (Nat.le_trans kk.size h)
    · exact hb b (List.mem_append_right _ h)
theorem left_takeG {fuel:Nat} {listed:Array Bool} (i:Nat) {gs j:Nat} {want:Bool} {op:Op} {V:Value} (hi:ops[i]? = some ⟨some d,op,ty,pos,af,some (j,want)⟩) (hj:((ops[j]?).bind (·.dst)) = some gs) (hq:sget sl gs = some (.bool want)) (hs1:Region.noSelect ops = true) (hf:Region.free .any ops listed i = true) (hr:(Region.ready .any ops listed).contains i = true)
    (hab:∀ (w:World) (ρ:Operand → Value),Oper.about P w ρ ⟨some d,op,ty,pos,af,some (j,want)⟩ = none) (hv:∀ w,RunV P ⟨w,[],0⟩ sl [] ⟨some d,op,ty,pos,af,some (j,want)⟩ V) (hd:Nat.blt d c.nt = true)
    (k:Tr c D ((d,V) :: sl) hs (Left P ops Q fuel (listed.setIfInBounds i true))):Tr c D sl hs (Left P ops Q (fuel + 1) listed):=fun a w hst=>by
  refine wpAnyIn_take (oi:=⟨some d,op,ty,pos,af,some (j,want)⟩) rfl hi hs1 hf hr (fun c a w h=>h) (v:=V) ⟨.inl ⟨by rw [wanted_gv (c0:=true) (q:=want) rfl hj hst.slots (by rw [hq];rfl)];simp,fun w'=>?_⟩,fun w'=>hab w' _⟩ (k _ _ (hst.put (by simpa [Nat.blt_eq] using hd) V))
  exact (hv w').2 a w' hst.slots ⟨.refl _ _,[],List.nodup_nil,rfl,by simp⟩
theorem any_vOff1 {rl:RSlots} {m j g:Nat} {want q:Bool} {op:Op} (hj:((ops[j]?).bind (·.dst)) = some g) (hq:sget sl g = some (.bool q)) (hn:(q == want) = false) (hd:Nat.blt d c.nt = true) (k:AnyT P r c D hs ops Q m rest ((d,gv (q == want) (.bool false)) :: sl) rl) :
    AnyT P r c D hs ops Q (m + 1) (⟨some d,op,ty,pos,af,some (j,want)⟩ :: rest) sl rl:=any_valG1 hj hq (fun e=>absurd (hn.symm.trans e) (by decide)) hd k
theorem tr_poolTake {E:TypeId} {vs:List Value} {xs:List (List Value)} {j:Nat} {v:Value} {x:List Value} (ht:Take hs (pool E vs xs) hs') (hv:vs[j]? = some v) (hx:xs[j]? = some x) (k:Tr c D sl (row E 1 v x.length x :: hs') X):Tr c D sl hs X:=fun a w hst=>by
  obtain ⟨kk,fp,hn,⟨f1,f2,rfl,h1,h2⟩,hb⟩:=hst.mem.take (ht.append _)
  obtain ⟨r,hr⟩:=poolL_get (E:=E) hv hx
  obtain ⟨g1,g2,h3,_,hp⟩:=Sats.take hr h1
  have hsub:∀ b ∈ g1++f2,b ∈ f1++f2:=fun b hb'=>by
    rcases List.mem_append.1 hb' with h | h
    · exact List.mem_append_left _ (hp.mem_iff.2 (List.mem_append_left _ h))
    · exact List.mem_append_right _ h
  obtain ⟨n1,n2,n12⟩:=List.nodup_append.1 hn
  have hg1:g1.Nodup:=(List.nodup_append.1 (hp.nodup_iff.1 n1)).1
  refine k a w (hst.heap ⟨kk,g1++f2,List.nodup_append.2 ⟨hg1,n2,fun x hx' y hy=>n12 x (hp.mem_iff.2 (List.mem_append_left _ hx')) y hy⟩,⟨g1,f2,rfl,h3,h2⟩,fun b hb'=>hb b (hsub b hb')⟩)
theorem endsTCT {fn:Func} {s t u:Tmp} {T:TypeId} {b o n:Nat} {cs vs:List Value} {E:TypeId} {fz:Nat × Nat} {x y:Value} (h:fn.results = #[.tmp s,.cell t T,.tmp u]) (hT:Ty P T true n) (hx:sget sl s = some x) (hp:sget sl t = some (.pointer (some ⟨b,o,none⟩))) (ht:Take hs (SL.blk b (.cells cs.toArray E fz)) hs') (hv:cellsAt cs o n = vs) (hl:vs.length = n) (hy:sget sl u = some y):Ends P fn c sl hs (.tuple #[x,.agg vs.toArray,y]):=
  endsL (xs:=[.tmp s,.cell t T,.tmp u]) (vs:=[x,.agg vs.toArray,y]) h (RVs.cons (RV.tmp hx) (RVs.cons (RV.cell hp (loadsN (Ats.blk ht hv) hl)) (RVs.cons (RV.tmp hy) RVs.nil))) (by simp)
end
end Go.SL
namespace Go.Proofs.A1
open Go Go.SL
def idxG {α:Type} (p:α → Bool) (l:List α):Int:=((List.range l.length).find? fun i=>(l[i]?.map p).getD false).elim (-1) (fun i=>(i:Int))
theorem idxG_at {α:Type} {p:α → Bool} {l:List α} {k:Nat} (h:∀ i,i < k → (l[i]?.map p).getD false = false) (hk:k < l.length) (hp:p l[k] = true):idxG p l = k:=by
  unfold idxG
  have:(List.range l.length).find? (fun i=>(l[i]?.map p).getD false) = some k:=by
    rw [List.find?_range_eq_some]
    exact ⟨by simp [hk,hp],by simpa using hk,fun i hi=>by simpa using h i hi⟩
  rw [this];rfl
theorem idxG_none {α:Type} {p:α → Bool} {l:List α} (h:∀ i,i < l.length → (l[i]?.map p).getD false = false):idxG p l = -1:=by
  unfold idxG
  have:(List.range l.length).find? (fun i=>(l[i]?.map p).getD false) = none:=by
    rw [List.find?_eq_none]
    intro i hi
    simp [h i (List.mem_range.1 hi)]
  rw [this];rfl
theorem idxG_any {α:Type} (p:α → Bool) (l:List α):decide (0 ≤ idxG p l) = l.any p:=by
  unfold idxG
  cases h:(List.range l.length).find? fun i=>(l[i]?.map p).getD false with
  | none =>
    have:l.any p = false:=by
      rw [List.any_eq_false]
      intro x hx
      obtain ⟨i,hi,rfl⟩:=List.getElem_of_mem hx
      have:=List.find?_eq_none.1 h i (List.mem_range.2 hi)
      simpa [hi] using this
    rw [this];rfl
  | some i =>
    have h1:=List.mem_range.1 (List.mem_of_find?_eq_some h)
    have h2:=List.find?_some h
    have:l.any p = true:=by
      rw [List.any_eq_true]
      exact ⟨l[i],List.getElem_mem h1,by simpa [h1] using h2⟩
    rw [this];simp
theorem index_c {lv:Value} {l:List Int} (x:Int) {w:World} (h:Rd w lv 1 (ints l)) :
    GivesV Tryz.prog 210 [lv,.int .i64 x] w (.int .i64 (idxG (fun y=>decide (x = y)) l)):=by
  obtain ⟨a,cp,b,o,rfl,hcap,hmax,ha,hc⟩:=h
  rw [ints_length] at *
  unfold maxLen at hmax
  refine givesV_of_tr Tryz.func210 rfl rfl ?_
  (refine s_r ?_;refine a_s rfl rfl ?_;refine n_t ?_;refine tr_seq ?_;refine s_r ?_;refine m_v rfl rfl ?_;refine tr_val (rk_len_slice (.of rfl)) rfl ?_;refine m_v rfl rfl ?_;refine n_t ?_;refine tr_block ?_)
  refine tr_for (fun k:Nat=>k ≤ l.length ∧ ∀ i,i < k → (l[i]?.map fun y=>decide (x = y)).getD false = false) (fun k=>[(8,.int .i64 k),(7,.int .i64 l.length),(0,.slice a l.length cp),(1,.int .i64 x)]) (fun _=>[]) (fun k=>l.length - k) ?_ ?_
  · apply tr_start 0 ⟨Nat.zero_le _,fun i h=>by omega⟩
    case hs1=>exact .cons rfl (.cons rfl (.cons rfl (.cons rfl .nil)))
    case ht=>(try simp only [List.take_zero,List.map_nil,List.nil_append]);exact .nil
  rintro k ⟨hk,hf⟩
  by_cases hlt:k < l.length
  · have ha':=ha (ints_ne hlt)
    have c0:w.cell? ⟨b,o + k * 1,none⟩ = some (.int .i64 l[k]):=(hc k _ (ints_get hlt)).2 0 _ rfl
    have hps:(l[k]?.map fun y=>decide (x = y)).getD false = decide (x = l[k]):=by simp [hlt]
    (refine s_r ?_;refine tr_val (rk_lss (.of rfl) (.of rfl)) rfl ?_;refine n_t ?_;refine tr_seq ?_;refine c_d rfl (fun hcd=>?_) (fun _=>by omega);refine s_t ?_;refine tr_seq ?_;refine tr_block ?_;refine s_r ?_;refine m_v rfl rfl ?_;refine a_s rfl rfl ?_;refine n_r ?_;refine m_v rfl rfl ?_;refine m_v rfl rfl ?_;refine m_v rfl rfl ?_;refine tr_val (rk_indexAddr (.of rfl) (.of rfl) ha' (by omega) hcd norm1_) rfl ?_;refine tr_val (rk_load1 (.of rfl) (At.base c0 rfl)) rfl ?_;refine tr_val (rk_eql (.of rfl) (.of rfl)) rfl ?_;refine n_t ?_;refine c_d rfl (fun hcd=>?_) (fun hcd=>?_);refine s_r ?_;refine m_v rfl rfl ?_;refine a_s rfl rfl ?_;refine n_t ?_;refine tr_ret ?_;refine tr_blk_ret ?_;refine tr_then_ret ?_;refine tr_then_ret ?_;refine tr_blk_ret ?_;refine tr_then_ret ?_;refine tr_retE rfl (ends1 rfl rfl) ?_;rotate_left;refine tr_skip ?_;refine tr_blk_normal ?_;refine tr_then ?_;refine tr_region ?_;refine tr_val (rk_add (.of rfl) (.of rfl) (ini (by omega))) rfl ?_;refine m_v rfl rfl ?_;refine n_t ?_;rotate_right)
    · rw [idxG_at hf hlt (by simpa using hcd)]
    · apply tr_next (k + 1) ⟨by omega,fun i hi=>by
        by_cases e:i = k
        · rw [e,hps];simpa using hcd
        · exact hf i (by omega)⟩ (by omega)
      case hs1=>exact .cons rfl (.cons rfl (.cons rfl (.cons rfl .nil)))
      case ht=>(try simp only [List.take_zero,List.map_nil,List.nil_append]);exact .nil
  · obtain rfl:k = l.length:=by omega
    (refine s_r ?_;refine tr_val (rk_lss (.of rfl) (.of rfl)) rfl ?_;refine n_t ?_;refine tr_seq ?_;refine c_d rfl (fun _=>by omega) (fun hcd=>?_);refine x_t ?_;refine tr_then_exit ?_;refine tr_blk_exit ?_;refine tr_then ?_;refine s_r ?_;refine a_s rfl rfl ?_;refine n_t ?_;refine tr_ret ?_;refine tr_retE rfl (ends1 rfl rfl) ?_)
    rw [idxG_none hf]
theorem contains_c {lv:Value} {l:List Int} (x:Int) {w:World} (h:Rd w lv 1 (ints l)) :
    GivesV Tryz.prog 185 [lv,.int .i64 x] w (.bool (l.contains x)):=by
  have hcl:∀ w',Keeps [] w w' → GivesV Tryz.prog 210 [lv,.int .i64 x] w' (.int .i64 (idxG (fun y=>decide (x = y)) l)):=fun w' hk=>index_c x (h.keeps hk)
  have e:l.contains x = l.any fun y=>decide (x = y):=by
    rw [List.contains_eq_any_beq];rfl
  rw [e,← idxG_any]
  refine givesV_of_tr Tryz.func185 rfl rfl ?_
  (refine s_r ?_;refine a_s rfl rfl ?_;refine n_r ?_;refine m_v rfl rfl ?_;refine m_v rfl rfl ?_;refine tr_callV (rk_call (.of rfl) (.cons (.of rfl) (.cons (.of rfl) .nil)) inferInstance normc_) rfl (fun w' hm'=>(hcl w' (Mem.keeps hm'))) ?_;refine tr_val (rk_geq (.of rfl) (.of rfl)) rfl ?_;refine a_s rfl rfl ?_;refine n_t ?_;refine tr_ret ?_;refine tr_retE rfl (ends1 rfl rfl) ?_)
  rfl
theorem ints_flat (l:List Int):(ints l).flatten = l.map (Value.int .i64):=by
  induction l with
  | nil=>rfl
  | cons x l ih=>simp only [ints,List.map_cons,List.flatten_cons] at ih ⊢;rw [ih];rfl
theorem clone_c {lv:Value} {l:List Int} {w:World} (h:Rd w lv 1 (ints l)) (hl:l.length ≤ 1000) :
    Gives Tryz.prog 190 [lv] w [] (fun _:Value=>True) id (fun v=>[row 3 1 v l.length (l.map (.int .i64))]):=by
  have h':=h
  obtain ⟨a,cp,b,o,rfl,hcap,hmax,ha,hc⟩:=h
  refine gives_of_tr Tryz.func190 rfl rfl ?_
  cases a with
  | none =>
    have hl0:l = []:=by
      cases l with
      | nil=>rfl
      | cons x r=>exact absurd (ha (by simp [ints])) (by simp)
    subst hl0
    (refine s_r ?_;refine a_s rfl rfl ?_;refine n_t ?_;refine tr_seq ?_;refine s_r ?_;refine m_v rfl rfl ?_;refine tr_val (rk_eqNil (.of rfl) (.of rfl)) rfl ?_;refine n_t ?_;refine tr_cond_t (.of rfl) ?_;refine s_r ?_;refine a_s rfl rfl ?_;refine n_t ?_;refine r_t ?_)
    refine tr_rowNil 3 1 ?_
    first | with_reducible apply tr_retM | with_reducible apply tr_endM
    case he=>exact ends1 rfl rfl
    case hR=>
      intro w' hm'
      exact gives_end (.slice none 0 0) trivial (show Takes _ [row 3 1 (.slice none 0 0) 0 []] _ by exact .cons .here .nil) hm' rfl
  | some ad =>
    (refine s_r ?_;refine a_s rfl rfl ?_;refine n_t ?_;refine tr_seq ?_;refine s_r ?_;refine m_v rfl rfl ?_;refine tr_val (rk_eqNil (.of rfl) (.of rfl)) rfl ?_;refine n_t ?_;refine tr_cond_f (.of rfl) ?_;refine s_t ?_;refine s_r ?_;refine tr_new (rk_sliceLit .nil rfl rfl rfl rfl) rfl (fun _ _=>?_);refine m_v rfl rfl ?_)
    rename_i bq hbq
    refine tr_rowLitE (g:=bq) (E:=3) (ys:=[]) 0 1 (by exact .here) rfl rfl rfl ?_
    with_reducible apply tr_appendR
    case hx=>exact Is.of rfl
    case hy=>exact Is.of rfl
    case ht=>exact .here
    case hsrc=>exact fun w' hm'=>h'.keeps hm'.keeps
    case h1=>exact ints_one l
    case hz=>exact rfl
    case hsz=>exact rfl
    case hb0=>exact rfl
    case hb=>rw [ints_length];omega
    case hd=>rfl
    intro v'
    rw [ints_length,ints_flat,Nat.zero_add,List.nil_append]
    (refine a_s rfl rfl ?_;refine n_t ?_;refine tr_ret ?_)
    first | with_reducible apply tr_retM | with_reducible apply tr_endM
    case he=>exact ends1 rfl rfl
    case hR=>
      intro w' hm'
      exact gives_end v' trivial (show Takes _ [row 3 1 v' l.length (l.map (.int .i64))] _ by exact .cons .here .nil) hm' rfl
end Go.Proofs.A1
namespace Go.SL
open Go
section
variable {P:Program} {r:Option Nat} {c:Cx} {D:List Nat} {sl:Slots} {hs hs' hs2:List Asn} {Q:Exit → Act → World → Prop} {ops:Array Oper} {d:Nat} {dst:Option Tmp} {ty:TypeId} {pos:String} {af:Array Edge} {g:Option (Nat × Bool)} {rest:List Oper} {κ:Type} [DecidableEq κ] {kv:κ → Value}
theorem tr_mpOpen {X:Act → World → Prop} {b:Nat} {l:List (κ × Value)} (ht:Take hs (mp kv b l) hs') (k:∀ es ck,mpOk kv l es ck → Tr c D sl (blk b (.map es ck) :: hs') X):Tr c D sl hs X:=fun a w hst=>by
  have hm:=hst.mem.take (ht.append _)
  obtain ⟨kk,fp,hn,⟨f1,f2,rfl,⟨e,es,ck,h1,h2⟩,h3⟩,hfb⟩:=hm
  exact k es ck h2 a w (hst.heap ⟨kk,f1++f2,hn,⟨f1,f2,rfl,⟨e,h1⟩,h3⟩,hfb⟩)
theorem rk_rangeM {t kt et:TypeId} {x:Operand} {b:Nat} {es:Array MapEntry} {ck:Nat} [hu:Und P t (.map kt et)] (hx:Is sl x (.map (some b))) (ht:Take hs (blk b (.map es ck)) hs') :
    RunN P c sl hs ⟨dst,.range t x,ty,pos,af,g⟩ (fun b'=>.pointer (some ⟨b',0,none⟩)) (.mapIter (some b) ck #[] ck):=
  ⟨by simp,fun a w ha hm=>by
    have hb:=hm.blk ht
    have:=run_range_map (P:=P) w t kt et b es ck hu.eq hb
    simp only [execOp,hx a ha,Sem.run_bind,this,Result.andThen_ok,Sem.run_pure]⟩
theorem left_zero {es:Array MapEntry} {seen:Array Nat} (h:(leftOf es seen).size = 0):∀ x ∈ es.toList,seen.contains x.born = true:=all_seen es seen h
theorem setBlock_setObj {w:World} {b:Nat} {m:Option Nat} {s1 s3:Nat} {s2:Array Nat} {o':Obj} (h:w.heap[b]? = some (.mapIter m s1 s2 s3)):(setObj b o').run P w = .ok () (setBlock w b o'):=by simp [setObj,Sem.run,h,setBlock]
theorem run_nextM {w:World} {b bm since c0 ck:Nat} {seen:Array Nat} {es:Array MapEntry} (hb:w.heap[bm]? = some (.map es ck)) (hi:w.heap[b]? = some (.mapIter (some bm) since seen c0)) (hold:∀ x ∈ es.toList,x.born < since) (hsc:since ≤ c0) :
    ((leftOf es seen).size = 0 ∧ (Instr.next (.pointer (some ⟨b,0,none⟩)) false ty).run P w = .ok (.tuple #[.bool false]) w) ∨
    ∃ e ∈ (leftOf es seen).toList,∃ w1:World,(w1 = w ∨ w1 = w.drew) ∧ (Instr.next (.pointer (some ⟨b,0,none⟩)) false ty).run P w = .ok (.tuple #[.bool true,e.key,e.val]) (setBlock w1 b (.mapIter (some bm) since (seen.push e.born) ck)):=by
  simp only [Instr.next,getObj,Sem.run_bind,Sem.run,hi,hb,Result.andThen,next_test_false seen es since c0 hold hsc,Bool.false_eq_true,if_false]
  unfold leftOf
  have hmem:∀ x ∈ (Array.filter (fun e=>!seen.contains e.born) es).toList,x.born < since:=fun x hx=>hold x (by simp at hx ⊢;exact hx.1)
  generalize Array.filter (fun e=>!seen.contains e.born) es = L at hmem ⊢
  have e1:L.filter (fun x=>decide (x.born < since)) = L:=Array.filter_eq_self.2 (fun x hx=>by simpa using hmem x (by simpa using hx))
  have e2:L.filter (fun x=>decide (x.born ≥ since)) = #[]:=by
    rw [Array.filter_eq_empty_iff]
    intro x hx
    have:=hmem x (by simpa using hx)
    simp
    omega
  simp only [e1,e2,Array.append_empty]
  by_cases h0:L.size = 0
  · left
    have:L = #[]:=Array.eq_empty_of_size_eq_zero h0
    subst this
    refine ⟨rfl,?_⟩
    simp [choose,Sem.run,Question.forced]
  · right
    have hne:L.isEmpty = false:=by simp [Array.isEmpty,h0]
    simp only [hne,Bool.false_eq_true,if_false,Array.empty_append,Array.size_map]
    have hch:∃ (j:Nat) (w1:World),j < L.size ∧ (w1 = w ∨ w1 = w.drew) ∧ (choose (Question.mapNext L.size)).run P w = .ok j w1:=by
      by_cases hf:L.size ≤ 1
      · exact ⟨0,w,by omega,.inl rfl,by simp [choose,Sem.run,Question.forced,hf]⟩
      · exact ⟨_,w.drew,Nat.mod_lt _ (by omega),.inr rfl,by
          simp only [choose,Sem.run,Question.forced,decide_eq_true_eq,hf,if_false,Question.cut]
          rfl⟩
    obtain ⟨j,w1,hj,hal,hrun⟩:=hch
    refine ⟨L[j],by simp,w1,hal,?_⟩
    have hi1:w1.heap[b]? = some (.mapIter (some bm) since seen c0):=by
      rcases hal with e | e
      · rw [e];exact hi
      · rw [e];exact hi
    simp only [hrun,Array.getElem?_map,Array.getElem?_eq_getElem hj,Option.map_some,Sem.run_bind,setBlock_setObj hi1,Result.andThen]
    rfl
theorem tr_nextM {x:Operand} {b bm since c0 ck:Nat} {seen:Array Nat} {es:Array MapEntry} (hx:Is sl x (.pointer (some ⟨b,0,none⟩))) (hd:Nat.blt d c.nt = true) (ht:Take hs (blk b (.mapIter (some bm) since seen c0)) hs') (ht2:Take hs' (blk bm (.map es ck)) hs2) (hold:∀ x ∈ es.toList,x.born < since) (hsc:since ≤ c0) (hck:since ≤ ck)
    (k0:(∀ x ∈ es.toList,seen.contains x.born = true) → Tr c D ((d,.tuple #[.bool false]) :: sl) (blk b (.mapIter (some bm) since seen c0) :: blk bm (.map es ck) :: hs2) (WL P r ops Q rest))
    (k1:∀ e,e ∈ es.toList → seen.contains e.born = false → Tr c D ((d,.tuple #[.bool true,e.key,e.val]) :: sl) (blk b (.mapIter (some bm) since (seen.push e.born) ck) :: blk bm (.map es ck) :: hs2) (WL P r ops Q rest)) :
    Tr c D sl hs (WL P r ops Q (⟨some d,.next x false,ty,pos,af,none⟩ :: rest)):=fun a w hst=>by
  have _:=hck
  have hT:Takes hs [blk b (.mapIter (some bm) since seen c0),blk bm (.map es ck)] hs2:=.cons ht (.cons ht2 .nil)
  have hm:=hst.mem.takes (hT.append (mks D))
  have hi:=hst.mem'.blk ht
  have hb:w.heap[bm]? = some (.map es ck):=(show Mem c (blk b (.mapIter (some bm) since seen c0) :: blk bm (.map es ck) :: (hs2++mks D)) w from hm).blk (.there .here)
  have hdl:d < c.nt:=by simpa [Nat.blt_eq] using hd
  refine wl_op rfl ⟨fr_about _ _ _ _ _,?_⟩
  rw [Oper.semAt_eq _ _ _ (by simp)]
  rcases run_nextM (P:=P) (ty:=ty) hb hi hold hsc with ⟨h0,h1⟩ | ⟨e,he,w1,hw,h1⟩
  · have:(execOp a.eval ⟨some d,.next x false,ty,pos,af,none⟩).run P w = .ok (.value (.tuple #[.bool false])) w:=by
      simp only [execOp,hx a hst.slots,Sem.run_bind,h1,Result.andThen_ok,Sem.run_pure]
    rw [this]
    exact k0 (left_zero h0) _ _ ((hst.put hdl _).heap (by simpa using hm))
  · have:(execOp a.eval ⟨some d,.next x false,ty,pos,af,none⟩).run P w = .ok (.value (.tuple #[.bool true,e.key,e.val])) (setBlock w1 b (.mapIter (some bm) since (seen.push e.born) ck)):=by
      simp only [execOp,hx a hst.slots,Sem.run_bind,h1,Result.andThen_ok,Sem.run_pure]
    rw [this]
    obtain ⟨m1,m2⟩:=mem_left he
    have hm1:Mem c (blk b (.mapIter (some bm) since seen c0) :: (blk bm (.map es ck) :: (hs2++mks D))) w1:=by
      rcases hw with e | e
      · rw [e];exact hm
      · rw [e];exact Mem.drew hm
    have hm2:=Mem.store hm1 (Keeps.setBlock w1 b (.mapIter (some bm) since (seen.push e.born) ck)) (setBlock_same (hp_lt (w:=w1) (hm1.blk .here)))
    exact k1 e m1 m2 _ _ ((hst.put hdl _).heap (by simpa using hm2))
theorem left_mem {es:Array MapEntry} {seen:Array Nat} {e:MapEntry} (h1:e ∈ es.toList) (h2:seen.contains e.born = false):e ∈ (leftOf es seen).toList:=by
  unfold leftOf
  simp only [Array.toList_filter,List.mem_filter]
  exact ⟨h1,by rw [h2];rfl⟩
theorem rk_entry {x:Operand} {b bm since ck:Nat} {seen:Array Nat} {es:Array MapEntry} {e:MapEntry} (hx:Is sl x (.pointer (some ⟨b,0,none⟩))) (ht:Take hs (blk b (.mapIter (some bm) since (seen.push e.born) ck)) hs') (ht2:Take hs' (blk bm (.map es ck)) hs2) (he:e ∈ es.toList) (hn:(es.toList.map (·.born)).Nodup) :
    RunV P c sl hs ⟨dst,.entry x,ty,pos,af,g⟩ (.tuple #[e.key,e.val]):=
  ⟨by simp,fun a w ha hm=>by
    have h1:=hm.blk ht
    have h2:w.heap[bm]? = some (.map es ck):=(show Mem c (_ :: hs') w from hm.take ht).blk (.there ht2)
    have hf:es.find? (·.born == e.born) = some e:=by rw [← Array.find?_toList];exact find_born e es.toList hn he
    have:(Instr.entry (.pointer (some ⟨b,0,none⟩))).run P w = .ok (.tuple #[e.key,e.val]) w:=by
      simp only [Instr.entry,getObj,Sem.run_bind,Sem.run,h1,h2,Result.andThen,Array.back?_push,bne_self_eq_false,Bool.false_eq_true,if_false,hf]
      rfl
    simp only [execOp,hx a ha,Sem.run_bind,this,Result.andThen_ok,Sem.run_pure]⟩
end
end Go.SL
