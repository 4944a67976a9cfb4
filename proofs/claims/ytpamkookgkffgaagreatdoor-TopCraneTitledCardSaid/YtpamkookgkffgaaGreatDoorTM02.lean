/- Parts of the proof: GkMem GkAny. -/
import Derived.Test.YtpamkookgkffgaaGreatDoorTM01
set_option linter.unusedSectionVars false
set_option linter.unusedVariables false
set_option linter.unusedSimpArgs false
namespace Go.SL
open Go
def RunN (P:Program) (c:Cx) (sl:Slots) (hs:List Asn) (o:Oper) (V:Nat → Value) (ob:Obj):Prop:=
  (∀ d,o.op ≠ .defer d) ∧ ∀ a w,SlotsOk sl a → Mem c hs w → (execOp a.eval o).run P w = .ok (.value (V w.heap.size)) (w.alloc ob)
section
variable {P:Program} {r:Option Nat} {c:Cx} {D:List Nat} {sl:Slots} {hs hs':List Asn} {ops:Array Oper} {Q:Exit → Act → World → Prop} {d:Nat} {dst:Option Tmp} {op:Op} {ty:TypeId} {pos:String} {af:Array Edge} {g:Option (Nat × Bool)} {rest:List Oper}
theorem tr_new {V:Nat → Value} {ob:Obj}
    (hr:RunN P c sl hs ⟨some d,op,ty,pos,af,none⟩ V ob) (hd:Nat.blt d c.nt = true) (k:∀ b,c.w0.heap.size ≤ b → Tr c D ((d,V b) :: sl) (blk b ob :: hs) (WL P r ops Q rest)) :
    Tr c D sl hs (WL P r ops Q (⟨some d,op,ty,pos,af,none⟩ :: rest)):=fun a w hst=>by
  refine wl_op rfl ⟨fr_about _ _ _ _ _,?_⟩
  rw [Oper.semAt_eq _ _ _ hr.1,hr.2 a w hst.slots hst.mem']
  have h1:=(hst.put (by simpa [Nat.blt_eq] using hd) (V w.heap.size))
  exact k w.heap.size hst.mem'.keeps.size _ _ (h1.heap (hst.mem.alloc ob))
theorem rk_box {t:TypeId} {x:Operand} {v:Value} {cs:List Value} (hx:Is sl x v) (hc:v.cells = cs.toArray):RunN P c sl hs ⟨dst,.box t x,ty,pos,af,g⟩ (fun b=>.pointer (some ⟨b,0,none⟩)) (.cells cs.toArray t):=
  ⟨by simp,fun a w ha _=>by simp [execOp,hx a ha,Instr.box,newVar,newRow,hc]⟩
theorem rk_alloc {t:TypeId} {z:Value} {cs:List Value} [Zer P t z] (hc:z.cells = cs.toArray):RunN P c sl hs ⟨dst,.alloc t,ty,pos,af,g⟩ (fun b=>.pointer (some ⟨b,0,none⟩)) (.cells cs.toArray t):=
  ⟨by simp,fun a w _ _=>by simp [execOp,Instr.alloc,rk_zeroValue (t:=t) (v:=z),newVar,newRow,hc]⟩
theorem rk_makeMap {t:TypeId}:RunN P c sl hs ⟨dst,.makeMap t none,ty,pos,af,g⟩ (fun b=>.map (some b)) (.map #[] 0):=
  ⟨by simp,fun a w _ _=>by simp [execOp,Instr.makeMap]⟩
theorem rk_buildSlice {t:TypeId} {n:Nat} {parts:Array (Nat × Operand)} {ps:Array (Nat × Value)} {V:Nat → Value} {ob:Obj}
    (hp:∀ a,SlotsOk sl a → (parts.map fun (i,x)=>(i,a.eval x)) = ps) (hb:∀ w,(Instr.buildSlice t n ps).run P w = .ok (V w.heap.size) (w.alloc ob)) :
    RunN P c sl hs ⟨dst,.buildSlice t n parts,ty,pos,af,g⟩ V ob:=
  ⟨by simp,fun a w ha _=>by simp only [execOp,hp a ha,Sem.run_bind,hb w,Result.andThen_ok,Sem.run_pure]⟩
def parts1 (vs:List Value):Array (Nat × Value):=(vs.zipIdx.map fun (v,i)=>(i,v)).toArray
theorem fill_ones:∀ (vs:List Value) (k:Nat) (acc:List Value),(∀ v ∈ vs,v.oneCell' = true) → k + vs.length ≤ acc.length →
    Instr.fill (fun i=>some (i * 1,1)) acc.toArray ((vs.zipIdx k).map fun (v,i)=>(i,v)) = some (acc.take k++vs++acc.drop (k + vs.length)).toArray
  | [],k,acc,_,_=>by simp [Instr.fill]
  | v :: vs, k, acc, h1, h2 => by
    have hv:=h1 v (by simp)
    have hc:v.cells = #[v]:=by cases v <;> simp_all [Value.cells,Value.oneCell']
    simp only [List.length_cons] at h2
    have e:Array.foldl (fun cs (x:Value × Nat)=>cs.setIfInBounds (k * 1 + x.2) x.1) acc.toArray #[v].zipIdx = (acc.set k v).toArray:=by
      simp
    simp only [List.zipIdx_cons,List.map_cons,Instr.fill,hc]
    rw [if_neg (by simp;omega)]
    simp only [e]
    rw [fill_ones vs (k + 1) (acc.set k v) (fun u hu=>h1 u (by simp [hu])) (by simp;omega)]
    congr 1
    have hk:k < acc.length:=by omega
    simp only [List.length_cons,List.append_assoc,List.cons_append]
    rw [List.take_set,List.drop_set_of_lt (by omega)]
    rw [show k + 1 + vs.length = k + (vs.length + 1) from by omega]
    congr 1
    rw [List.take_succ_eq_append_getElem hk]
    rw [List.set_append_right _ _ (by simp;omega)]
    simp [Nat.min_eq_left (Nat.le_of_lt hk)]
theorem rk_buildSlice1 {t e:TypeId} {n:Nat} {z:Value} [hu:Und P t (.slice e)] [Ty P e false 1] [Zer P e z] {vs:List Value} (hl:vs.length = n) (hn:n ≤ 1000) (hz:z.oneCell' = true) (hv:∀ v ∈ vs,v.oneCell' = true) (w:World) :
    (Instr.buildSlice t n (parts1 vs)).run P w = .ok (.slice (some ⟨w.heap.size,0,none⟩) n n) (w.alloc (.cells vs.toArray e)):=by
  have hzc:z.cells = #[z]:=by cases z <;> simp_all [Value.cells,Value.oneCell']
  unfold Instr.buildSlice
  simp only [Sem.run_bind,rk_underlying hu.eq,Result.andThen_ok,rk_sizeOf (t:=e) (agg:=false) (n:=1),Nat.mul_one]
  rw [if_neg (by omega)]
  have hf:∀ (zz:Array Value),zz.size = n → Instr.fill (fun i=>some (i,1)) zz (parts1 vs).toList = some vs.toArray:=by
    intro zz hzz
    have:=fill_ones vs 0 zz.toList hv (by simp [hl,hzz])
    simp only [Array.toArray_toList,Nat.mul_one] at this
    simp only [parts1]
    rw [this]
    simp [hl,hzz]
  by_cases h0:n = 0
  · subst h0
    simp only [if_true,Sem.run_bind,Sem.run_pure,Result.andThen_ok]
    rw [hf _ (by simp)]
    simp [newRow]
  · rw [if_neg h0]
    simp only [Sem.run_bind,rk_zeroValue (t:=e) (v:=z),Result.andThen_ok,Sem.run_pure,hzc]
    rw [hf _ (by simp)]
    simp [newRow]
def setCells:List Value → Nat → List Value → List Value
  | cs,_,[]=>cs
  | cs,o,v :: vs=>setCells (cs.set o v) (o + 1) vs
def setBlock (w:World) (b:Nat) (ob:Obj):World:={ w with heap:=w.heap.setIfInBounds b ob }
theorem Keeps.setBlock (w:World) (b:Nat) (ob:Obj):Keeps [b] w (setBlock w b ob):=
  ⟨rfl,rfl,rfl,by simp [SL.setBlock],fun k hk hm=>by
    have:b ≠ k:=fun e=>hm (by simp [e])
    simp [SL.setBlock,Array.getElem?_setIfInBounds_ne this]⟩
theorem setBlock_same {w:World} {b:Nat} {ob:Obj} (h:b < w.heap.size):(setBlock w b ob).heap[b]? = some ob:=by simp [setBlock,h]
theorem frozen_of_block {w:World} {b:Nat} {cs:Array Value} {E:TypeId} (h:w.heap[b]? = some (.cells cs E (0,0))) (o:Nat):w.frozen? ⟨b,o,none⟩ = false:=by
  simp [World.frozen?,h]
theorem setCell_block {w:World} {b:Nat} {cs:List Value} {E:TypeId} (h:w.heap[b]? = some (.cells cs.toArray E (0,0))) (o:Nat) (v:Value):w.setCell ⟨b,o,none⟩ v = setBlock w b (.cells (cs.set o v).toArray E (0,0)):=by
  unfold World.setCell setBlock
  congr 1
  apply Array.ext_getElem?
  intro k
  rw [Array.getElem?_modify]
  by_cases hk:b = k
  · subst hk
    have:=hp_lt (w:=w) h
    rw [if_pos rfl,h,Array.getElem?_setIfInBounds_self_of_lt this]
    simp
  · rw [if_neg hk,Array.getElem?_setIfInBounds_ne hk]
theorem rk_storeCells {b o:Nat} {E:TypeId}:∀ (vs:List Value) (i:Nat) (cs:List Value) (w:World),w.heap[b]? = some (.cells cs.toArray E (0,0)) → (∀ v ∈ vs,v.oneCell' = true) → o + i + vs.length ≤ cs.length →
    ∃ w',(storeCells ⟨b,o,none⟩ vs i).run P w = .ok () w' ∧ Keeps [b] w w' ∧ w'.heap[b]? = some (.cells (setCells cs (o + i) vs).toArray E (0,0))
  | [],i,cs,w,h,_,_=>⟨w,rfl,.refl _ _,h⟩
  | v :: vs, i, cs, w, h, h1, h2 => by
    simp only [List.length_cons] at h2
    have hlt:=hp_lt (w:=w) h
    have hst:(store (Addr.add ⟨b,o,none⟩ i) v).run P w = .ok () (setBlock w b (.cells (cs.set (o + i) v).toArray E (0,0))):=by
      rw [addr_add,run_store P w _ v .plain (h1 v (by simp)),cell_of_block h]
      have:(cs.toArray)[o + i]? = some (cs[o + i]'(by omega)):=by simp
      rw [this]
      simp only [frozen_of_block h,Bool.false_eq_true,if_false,setCell_block h]
    obtain ⟨w',h3,h4,h5⟩:=rk_storeCells (o:=o) vs (i + 1) (cs.set (o + i) v) (setBlock w b (.cells (cs.set (o + i) v).toArray E (0,0))) (setBlock_same hlt) (fun u hu=>h1 u (by simp [hu])) (by simp;omega)
    refine ⟨w',?_,(Keeps.setBlock w b _).trans h4,by rw [h5];rfl⟩
    simp only [storeCells,Sem.run_bind,hst,Result.andThen_ok,h3]
theorem rk_storeVar {t:TypeId} {agg:Bool} {n:Nat} [Ty P t agg n] {b o:Nat} {E:TypeId} {v:Value} {vs cs:List Value} {w:World} (h:w.heap[b]? = some (.cells cs.toArray E (0,0))) (hv:v.cells = vs.toArray) (hl:vs.length = n)
    (h1:∀ u ∈ vs,u.oneCell' = true) (h2:o + n ≤ cs.length) :
    ∃ w',(storeVar t ⟨b,o,none⟩ v).run P w = .ok () w' ∧ Keeps [b] w w' ∧ w'.heap[b]? = some (.cells (setCells cs o vs).toArray E (0,0)):=by
  obtain ⟨w',h3,h4,h5⟩:=rk_storeCells (P:=P) (o:=o) vs 0 cs w h h1 (by omega)
  refine ⟨w',?_,h4,h5⟩
  unfold storeVar
  rw [Sem.run_bind,rk_sizeOf (t:=t) (agg:=agg) (n:=n),Result.andThen_ok,if_neg (by simp [hv,hl])]
  simpa [hv] using h3
theorem tr_store {t:TypeId} {agg:Bool} {n:Nat} [Ty P t agg n] {x y:Operand} {b o:Nat} {E:TypeId} {v:Value} {vs cs cs':List Value} (hx:Is sl x (.pointer (some ⟨b,o,none⟩))) (hy:Is sl y v)
    (ht:Take hs (blk b (.cells cs.toArray E (0,0))) hs') (hv:v.cells = vs.toArray) (hl:vs.length = n) (h1:∀ u ∈ vs,u.oneCell' = true) (h2:o + n ≤ cs.length) (he:setCells cs o vs = cs')
    (k:Tr c D sl (blk b (.cells cs'.toArray E (0,0)) :: hs') (WL P r ops Q rest)) :
    Tr c D sl hs (WL P r ops Q (⟨none,.store t x y,ty,pos,af,none⟩ :: rest)):=fun a w hst=>by
  subst he
  have hm:=hst.mem.take (ht.append _)
  obtain ⟨w',h3,h4,h5⟩:=rk_storeVar (P:=P) (t:=t) (o:=o) (hm.blk .here) hv hl h1 h2
  refine wl_op rfl ⟨fr_about _ _ _ _ _,?_⟩
  rw [Oper.semAt_eq _ _ _ (by simp)]
  have:(execOp a.eval ⟨none,.store t x y,ty,pos,af,none⟩).run P w = .ok .skip w':=by
    simp [execOp,hx a hst.slots,hy a hst.slots,Instr.storeAt,Instr.sureAddr,h3]
  rw [this]
  exact k _ _ (hst.heap (Mem.store hm h4 h5))
theorem fold_set (off:Nat):∀ (vs:List Value) (k:Nat) (cs:List Value),(vs.zipIdx k).foldl (fun (cs:Array Value) (x:Value × Nat)=>cs.setIfInBounds (off + x.2) x.1) cs.toArray = (setCells cs (off + k) vs).toArray
  | [],_,_=>rfl
  | v :: vs, k, cs => by
    simp only [List.zipIdx_cons,List.foldl_cons,List.setIfInBounds_toArray,setCells]
    exact fold_set off vs (k + 1) (cs.set (off + k) v)
def fillL (places:List (Nat × Nat)):List Value → List (Nat × Value) → Option (List Value)
  | cs,[]=>some cs
  | cs, (i, v) :: rest =>
    match places[i]? with
    | some (off,size)=>if v.cells.size = size ∧ off + size ≤ cs.length then fillL places (setCells cs off v.cells.toList) rest else none
    | none=>none
theorem fill_eq {places:List (Nat × Nat)} {f:Nat → Option (Nat × Nat)} (hf:∀ i x,places[i]? = some x → f i = some x):∀ (ps:List (Nat × Value)) (cs cs':List Value),fillL places cs ps = some cs' → Instr.fill f cs.toArray ps = some cs'.toArray
  | [],cs,cs',h=>by simp only [fillL,Option.some.injEq] at h;simp [Instr.fill,h]
  | (i, v) :: rest, cs, cs', h => by
    unfold fillL at h
    split at h
    · rename_i off size hp
      split at h
      · rename_i hc
        have h2:=fill_eq hf rest _ _ h
        unfold Instr.fill
        simp only [hf i _ hp]
        rw [if_neg (by simp [hc.1];omega)]
        rw [← h2]
        congr 1
        have:=fold_set off v.cells.toList 0 cs
        simp only [Nat.add_zero] at this
        rw [← this,← Array.foldl_toList]
        simp
      · cases h
    · cases h
def buildInfo (P:Program) (t:TypeId):Option (List (Nat × Nat) × List Value):=
  match P.underlying t,P.info? t with
  | some (.struct fs), some i => match i.zero, fs.toList.mapM (fun f => (P.info? f.type).map fun j => (f.offset, j.size)) with
    | some z,some ps=>some (ps,z.cells.toList)
    | _,_=>none
  | some (.array n e), some i => match i.zero, P.info? e with
    | some z,some j=>some ((List.range n).map (fun k=>(k * j.size,j.size)),z.cells.toList)
    | _,_=>none
  | _,_=>none
class Bld (P:Program) (t:TypeId) (ps:outParam (List (Nat × Nat))) (z:outParam (List Value)):Prop where
  eq:buildInfo P t = some (ps,z)
theorem mapM_sizes {w:World}:∀ (fs:List Field) (ps:List (Nat × Nat)),fs.mapM (fun f=>(P.info? f.type).map fun j=>(f.offset,j.size)) = some ps →
    (fs.mapM (fun (f:Field)=>(do pure (f.offset,← sizeOf f.type):Sem (Nat × Nat)))).run P w = .ok ps w
  | [],ps,h=>by simp at h;simp [h]
  | f :: fs, ps, h => by
    simp only [List.mapM_cons,Option.bind_eq_bind,Option.bind_eq_some_iff,Option.map_eq_some_iff,Option.pure_def,Option.some.injEq] at h
    obtain ⟨_,⟨j,hj,rfl⟩,qs,hq,rfl⟩:=h
    have:=mapM_sizes (w:=w) fs qs hq
    have hsz:(sizeOf f.type).run P w = .ok j.size w:=by simp [sizeOf,rk_typeInfo hj]
    rw [List.mapM_cons]
    simp only [Sem.run_bind,hsz,Result.andThen_ok,Sem.run_pure,this]
theorem rk_buildI {t:TypeId} {places:List (Nat × Nat)} {z cs:List Value} [h:Bld P t places z] {ps:List (Nat × Value)} (hf:fillL places z ps = some cs) (w:World):(Instr.build t ps.toArray).run P w = .ok (.agg cs.toArray) w:=by
  have h0:=h.eq
  unfold buildInfo at h0
  split at h0
  · rename_i fs i hu hi
    split at h0
    · rename_i zz qs hz hq
      simp only [Option.some.injEq,Prod.mk.injEq] at h0
      obtain ⟨rfl,rfl⟩:=h0
      have h1:(zeroValue t).run P w = .ok zz w:=by simp [zeroValue,rk_typeInfo hi,hz]
      have h2:(fs.mapM (fun (f:Field)=>(do pure (f.offset,← sizeOf f.type):Sem (Nat × Nat)))).run P w = .ok qs.toArray w:=by
        have:=mapM_sizes (P:=P) (w:=w) fs.toList qs hq
        rw [← Array.toArray_toList (xs:=fs),List.mapM_toArray,Sem.run_map,this]
        rfl
      have h3:=fill_eq (f:=fun i=>qs.toArray[i]?) (fun i x hx=>by simpa using hx) ps zz.cells.toList cs hf
      unfold Instr.build
      simp only [Sem.run_bind,h1,Result.andThen_ok,rk_underlying hu,h2]
      simp only [Array.toArray_toList] at h3
      rw [h3]
      rfl
    · cases h0
  · rename_i n e i hu hi
    split at h0
    · rename_i zz j hz hj
      simp only [Option.some.injEq,Prod.mk.injEq] at h0
      obtain ⟨rfl,rfl⟩:=h0
      have h1:(zeroValue t).run P w = .ok zz w:=by simp [zeroValue,rk_typeInfo hi,hz]
      have h2:(sizeOf e).run P w = .ok j.size w:=by simp [sizeOf,rk_typeInfo hj]
      have h3:=fill_eq (f:=fun i=>some (i * j.size,j.size)) (fun i x hx=>by
        rw [List.getElem?_map] at hx
        obtain ⟨y,hy,rfl⟩:=Option.map_eq_some_iff.1 hx
        have:=List.getElem?_eq_some_iff.1 hy
        obtain ⟨hlt,he⟩:=this
        simp at he
        rw [he]) ps zz.cells.toList cs hf
      unfold Instr.build
      simp only [Sem.run_bind,h1,Result.andThen_ok,rk_underlying hu,h2]
      simp only [Array.toArray_toList] at h3
      rw [h3]
      rfl
    · cases h0
  · cases h0
inductive Parts (sl:Slots):List (Nat × Operand) → List (Nat × Value) → Prop
  | nil:Parts sl [] []
  | cons {i:Nat} {x:Operand} {xs:List (Nat × Operand)} {v:Value} {vs:List (Nat × Value)} (h:Is sl x v) (t:Parts sl xs vs):Parts sl ((i,x) :: xs) ((i,v) :: vs)
theorem Parts.map {xs:List (Nat × Operand)} {vs:List (Nat × Value)} (h:Parts sl xs vs) {a:Act} (ha:SlotsOk sl a):(xs.map fun (i,x)=>(i,a.eval x)) = vs:=by
  induction h with
  | nil=>rfl
  | cons h _ ih=>simp [h a ha];simpa using ih
theorem rk_buildL {t:TypeId} {xs:List (Nat × Operand)} {ps:List (Nat × Value)} {places:List (Nat × Nat)} {z cs:List Value} [Bld P t places z] (hp:Parts sl xs ps) (hf:fillL places z ps = some cs) :
    RunV P c sl hs ⟨dst,.build t xs.toArray,ty,pos,af,g⟩ (.agg cs.toArray):=
  rk_build (ps:=ps.toArray) (fun a ha=>by simp [← hp.map ha]) (fun w=>rk_buildI hf w)
inductive PartsS (sl:Slots):Nat → List (Nat × Operand) → List Value → Prop
  | nil {i:Nat}:PartsS sl i [] []
  | cons {i:Nat} {x:Operand} {xs:List (Nat × Operand)} {v:Value} {vs:List Value} (h:Is sl x v) (t:PartsS sl (i + 1) xs vs):PartsS sl i ((i,x) :: xs) (v :: vs)
theorem PartsS.map {i:Nat} {xs:List (Nat × Operand)} {vs:List Value} (h:PartsS sl i xs vs) {a:Act} (ha:SlotsOk sl a):(xs.map fun (i,x)=>(i,a.eval x)) = (vs.zipIdx i).map fun (v,i)=>(i,v):=by
  induction h with
  | nil=>rfl
  | cons h _ ih=>simp [h a ha];simpa using ih
theorem rk_sliceLit {t e:TypeId} {n:Nat} {z:Value} {xs:List (Nat × Operand)} {vs:List Value} [hu:Und P t (.slice e)] [Ty P e false 1] [Zer P e z] (hp:PartsS sl 0 xs vs)
    (hl:vs.length = n) (hn:Nat.ble n 1000 = true) (hz:z.oneCell' = true) (h1:vs.all Value.oneCell' = true) :
    RunN P c sl hs ⟨dst,.buildSlice t n xs.toArray,ty,pos,af,g⟩ (fun b=>.slice (some ⟨b,0,none⟩) n n) (.cells vs.toArray e):=
  rk_buildSlice (ps:=parts1 vs) (fun a ha=>by simp only [parts1,← hp.map ha];simp) (fun w=>rk_buildSlice1 hl (by simpa using hn) hz (by simpa [List.all_eq_true] using h1) w)
class Bod (P:Program) (f:FuncId):Prop where
  eq:((P.funcs[f]?).map fun fn=>(fn.name == "runtime.NumGoroutine" || fn.body.isNone)) = some false
theorem rk_callFunc {f:FuncId} [h:Bod P f] (args:Array Value) (w:World):(callFunc f args).run P w = .ok (.enter f args) w:=by
  have:=h.eq
  cases hf:P.funcs[f]? with
  | none=>rw [hf] at this;cases this
  | some fn =>
    rw [hf] at this
    simp only [Option.map_some,Option.some.injEq,Bool.or_eq_false_iff] at this
    obtain ⟨h1,h2⟩:=this
    simp only [callFunc,Sem.run_bind,run_program,Result.andThen_ok,hf,h1,h2]
    rfl
inductive Iss (sl:Slots):List Operand → List Value → Prop
  | nil:Iss sl [] []
  | cons {x:Operand} {xs:List Operand} {v:Value} {vs:List Value} (h:Is sl x v) (t:Iss sl xs vs):Iss sl (x :: xs) (v :: vs)
theorem Iss.map {sl:Slots} {xs:List Operand} {vs:List Value} (h:Iss sl xs vs) {a:Act} (ha:SlotsOk sl a):xs.map a.eval = vs:=by
  induction h with
  | nil=>rfl
  | cons h _ ih=>simp [h a ha,ih]
def RunC (P:Program) (sl:Slots) (o:Oper) (f:FuncId) (args:List Value):Prop:=
  (∀ d,o.op ≠ .defer d) ∧ ∀ a w,SlotsOk sl a → (execOp a.eval o).run P w = .ok (.enter f args.toArray) w
theorem rk_call {x:Operand} {xs:List Operand} {ts:Array TypeId} {f:FuncId} {first vs cap args:List Value} (hx:Is sl x (.func (.func f) first.toArray cap.toArray)) (ha:Iss sl xs vs) (hb:Bod P f) (he:first++vs++cap = args) :
    RunC P sl ⟨dst,.call ⟨.value x,xs.toArray,ts⟩,ty,pos,af,g⟩ f args:=
  ⟨by simp,fun a w hs=>by
    subst he
    have h1:=ha.map hs
    simp only [execOp,resolve,hx a hs,Deferred.ofValue,Sem.run_bind,Sem.run_pure,Result.andThen_ok,invoke,List.map_toArray,h1,List.append_toArray]
    exact rk_callFunc (h:=hb) _ _⟩
theorem rk_makeFunc' {f:Fn} {xs ys:List Operand} {vs us:List Value} (h1:Iss sl xs vs) (h2:Iss sl ys us) :
    RunV P c sl hs ⟨dst,.makeFunc f xs.toArray ys.toArray,ty,pos,af,g⟩ (.func f vs.toArray us.toArray):=
  rk_makeFunc (fun a ha=>by simp [h1.map ha]) (fun a ha=>by simp [h2.map ha])
def Gives (P:Program) (f:FuncId) (args:List Value) (w:World) (md:List Nat) {ι:Type} (Φ:ι → Prop) (val:ι → Value) (own:ι → List Asn):Prop:=
  Calls P f args.toArray w fun e w'=>∃ x,e = .returned (val x) ∧ Φ x ∧ Keeps md w w' ∧ ∃ fp:List Nat,fp.Nodup ∧ Sats (hp w') (own x) fp ∧ ∀ b ∈ fp,b ∈ md ∨ w.heap.size ≤ b
def GivesV (P:Program) (f:FuncId) (args:List Value) (w:World) (V:Value):Prop:=
  Calls P f args.toArray w fun e w'=>e = .returned V ∧ Keeps [] w w'
theorem GivesV.conv {f:FuncId} {args args':List Value} {w:World} {V V':Value} (h:GivesV P f args w V) (ea:args = args') (ev:V = V'):GivesV P f args' w V':=ea ▸ ev ▸ h
theorem calls_wide {n:Nat} {f:FuncId} {args:Array Value} {w:World} {R:Ending → World → Prop} (h:Calls P f args w R):CallsIn (FR r) n P f args w R:=
  (callsIn_wide (n:=n)).2 h
theorem wl_call {o:Oper} {f:FuncId} {args:List Value} {R:Ending → World → Prop} {a:Act} {w:World} (hg:o.guard = none) (hr:RunC P sl o f args) (hs:SlotsOk sl a) (hc:Calls P f args.toArray w R)
    (k:∀ e w',R e w' → ∃ v,e = .returned v ∧ WL P r ops Q rest (a.put o.dst v) w'):WL P r ops Q (o :: rest) a w:=by
  refine wl_op hg ⟨fr_about _ _ _ _ _,?_⟩
  rw [Oper.semAt_eq _ _ _ hr.1,hr.2 a w hs]
  refine ⟨by simp [FR,Fence.wide],(calls_wide hc).mono fun e w' h=>?_⟩
  obtain ⟨v,rfl,hk⟩:=k e w' h
  exact hk
theorem tr_callV {f:FuncId} {args:List Value} {V:Value} (hr:RunC P sl ⟨some d,op,ty,pos,af,none⟩ f args) (hd:Nat.blt d c.nt = true) (hc:∀ w,Mem c hs w → GivesV P f args w V)
    (k:Tr c D ((d,V) :: sl) hs (WL P r ops Q rest)):Tr c D sl hs (WL P r ops Q (⟨some d,op,ty,pos,af,none⟩ :: rest)):=fun a w hst=>
  wl_call rfl hr hst.slots (hc w hst.mem') fun e w' ⟨he,hk⟩=>⟨V,he,k _ _ ((hst.put (by simpa [Nat.blt_eq] using hd) V).heap (hst.mem.keepsOn hk))⟩
inductive Takes:List Asn → List Asn → List Asn → Prop
  | nil {hs:List Asn}:Takes hs [] hs
  | cons {hs h1 h2:List Asn} {A:Asn} {As:List Asn} (h:Take hs A h1) (t:Takes h1 As h2):Takes hs (A :: As) h2
theorem Sats.takes {h:Nat → Option Obj} {hs As hs':List Asn} (ht:Takes hs As hs'):∀ {fp:List Nat},Sats h hs fp → ∃ f1 f2,Sats h As f1 ∧ Sats h hs' f2 ∧ fp.Perm (f1++f2):=by
  induction ht with
  | nil=>intro fp hf;exact ⟨[],fp,rfl,hf,.refl _⟩
  | cons h _ ih =>
    intro fp hf
    obtain ⟨f1,f2,h1,h2,hp⟩:=hf.take h
    obtain ⟨g1,g2,h3,h4,hq⟩:=ih h2
    exact ⟨f1++g1,g2,⟨f1,g1,rfl,h1,h3⟩,h4,hp.trans (by rw [List.append_assoc];exact hq.append_left f1)⟩
theorem Mem.takes {As:List Asn} {w:World} (h:Mem c hs w) (ht:Takes hs As hs'):Mem c (As++hs') w:=by
  obtain ⟨k,fp,hn,hs,hb⟩:=h
  obtain ⟨f1,f2,h1,h2,hp⟩:=hs.takes ht
  exact ⟨k,f1++f2,hp.nodup_iff.1 hn,Sats.append_iff.2 ⟨f1,f2,rfl,h1,h2⟩,fun b hb'=>hb b (hp.mem_iff.2 hb')⟩
theorem Takes.append {As:List Asn} (h:Takes hs As hs') (m:List Asn):Takes (hs++m) As (hs'++m):=by
  induction h with
  | nil=>exact .nil
  | cons h _ ih=>exact .cons (h.append m) ih
theorem Mem.gives {As Bs:List Asn} {w w':World} (hm:Mem c (As++hs') w)
    (hs0:∀ fp,fp.Nodup → Sats (hp w) As fp → Keeps fp w w' ∧ ∃ fp':List Nat,fp'.Nodup ∧ Sats (hp w') Bs fp' ∧ ∀ b ∈ fp',b ∈ fp ∨ w.heap.size ≤ b):Mem c (Bs++hs') w':=Mem.change hm hs0
theorem tr_call {f:FuncId} {args:List Value} {As:List Asn} {ι:Type} {Φ:ι → Prop} {val:ι → Value} {own:ι → List Asn} (hr:RunC P sl ⟨some d,op,ty,pos,af,none⟩ f args) (hd:Nat.blt d c.nt = true) (ht:Takes hs As hs')
    (hc:∀ w fp,Mem c hs w → fp.Nodup → Sats (hp w) As fp → Gives P f args w fp Φ val own)
    (k:∀ x,Φ x → Tr c D ((d,val x) :: sl) (own x++hs') (WL P r ops Q rest)):Tr c D sl hs (WL P r ops Q (⟨some d,op,ty,pos,af,none⟩ :: rest)):=fun a w hst=>by
  have hm:=hst.mem.takes (ht.append (mks D))
  obtain ⟨kk,fp,hn,hsat,hb⟩:=hm
  obtain ⟨f1,f2,rfl,h1,h2⟩:=Sats.append_iff.1 hsat
  refine wl_call rfl hr hst.slots (hc w f1 hst.mem' (List.nodup_append.1 hn).1 h1) fun e w' ⟨x,he,hx,hk,fp',hn',hs',hf'⟩=>⟨val x,he,k x hx _ _ ((hst.put (by simpa [Nat.blt_eq] using hd) (val x)).heap ?_)⟩
  obtain ⟨n1,n2,n12⟩:=List.nodup_append.1 hn
  have hlt:∀ b ∈ f2,b < w.heap.size:=fun b hb'=>let ⟨o,ho⟩:=h2.own b hb';hp_lt ho
  rw [List.append_assoc]
  refine ⟨?_,fp'++f2,?_,Sats.append_iff.2 ⟨fp',f2,rfl,hs',h2.loc fun b hb'=>?_⟩,?_⟩
  · refine ⟨hk.os.trans kk.os,hk.tape.trans kk.tape,hk.output.trans kk.output,Nat.le_trans kk.size hk.size,fun b hb' hm=>?_⟩
    rw [← kk.block b hb' hm]
    refine hk.block b (Nat.lt_of_lt_of_le hb' kk.size) (fun hf=>?_)
    rcases hb b (List.mem_append_left _ hf) with h | h
    · omega
    · exact hm h
  · refine List.nodup_append.2 ⟨hn',n2,fun x hx y hy e=>?_⟩
    subst e
    rcases hf' x hx with h | h
    · exact n12 x h x hy rfl
    · have:=hlt x hy;omega
  · exact hk.block b (hlt b hb') (fun hf=>n12 b hf b hb' rfl)
  · intro b hb'
    rcases List.mem_append.1 hb' with h | h
    · rcases hf' b h with h | h
      · exact hb b (List.mem_append_left _ h)
      · exact .inl (Nat.le_trans kk.size h)
    · exact hb b (List.mem_append_right _ h)
def argSlots:Nat → List Value → Slots
  | _,[]=>[]
  | i,v :: vs=>(i,v) :: argSlots (i + 1) vs
theorem sget_argSlots:∀ (vs:List Value) (i t:Nat) (v:Value),sget (argSlots i vs) t = some v → ∃ j,t = i + j ∧ vs[j]? = some v
  | [],_,_,_,h=>by simp [argSlots,sget] at h
  | u :: us, i, t, v, h => by
    by_cases hit:i = t
    · subst hit
      rw [argSlots,sget_cons_eq] at h
      exact ⟨0,rfl,by simpa using h⟩
    · rw [argSlots,sget_cons_ne hit] at h
      obtain ⟨j,e,hj⟩:=sget_argSlots us (i + 1) t v h
      exact ⟨j + 1,by omega,by simpa using hj⟩
theorem calls_of_tr {f:FuncId} {fn:Func} {code:Code} {args:List Value} {w:World} {md:List Nat} {hs0:List Asn} {R:Ending → World → Prop} (hf:P.funcs[f]? = some fn) (hb:fn.body = some code) (hl:args.length ≤ fn.ntmps)
    (h0:∃ fp:List Nat,fp.Nodup ∧ Sats (hp w) hs0 fp ∧ ∀ b ∈ fp,b ∈ md)
    (h:Tr ⟨w,md,fn.ntmps⟩ [] (argSlots 0 args) hs0 (WP P none code (bodyPostM (FR none) 0 P fn R))):Calls P f args.toArray w R:=by
  have hc:=callsIn_of_wp_marks (F:=FR none) (n:=0) (P:=P) (f:=f) (R:=R) (w:=w) (args:=args.toArray) hf hb trivial
    (h { tmps:=args.toArray++Array.replicate (fn.ntmps - args.toArray.size) undef,defers:=[] } w ⟨⟨.refl _ _,?_⟩,?_,?_,rfl⟩)
  · exact (callsIn_wide (n:=0)).1 hc
  · obtain ⟨fp,hn,hsat,hm⟩:=h0
    exact ⟨fp,hn,by simpa [mks] using hsat,fun b hb'=>.inr (hm b hb')⟩
  · intro t v hv
    obtain ⟨j,e,hj⟩:=sget_argSlots args 0 t v hv
    have:t = j:=by omega
    subst this
    obtain ⟨hlt,hv'⟩:=List.getElem?_eq_some_iff.1 hj
    simp [Array.getElem?_append,hlt,hv']
  · simp;omega
end
end Go.SL
namespace Go.SL
open Go
structure Rel where
  p:Value → World → Prop
  st:∀ {v:Value} {w w':World},p v w → Keeps [] w w' → p v w'
def Rel.val (V:Value):Rel:=⟨fun v _=>v = V,fun h _=>h⟩
abbrev RSlots:=List (Nat × Rel)
def RelsAt (T:List Nat) (rl:RSlots) (a:Act) (w:World):Prop:=∀ d R,(d,R) ∈ rl → d ∈ T → ∃ v,a.tmps[d]? = some v ∧ R.p v w
def QRun (P:Program) (o:Oper) (a:Act) (w:World) (R:Rel):Prop:=
  match (execOp a.eval o).run P w with
  | .ok (.value v) w'=>Keeps [] w w' ∧ R.p v w'
  | .ok (.enter f args) w'=>w' = w ∧ Calls P f args w (fun e w''=>∃ v,e = .returned v ∧ Keeps [] w w'' ∧ R.p v w'')
  | _=>False
def StepQ (P:Program) (c:Cx) (hs:List Asn) (ops:Array Oper) (sl:Slots) (rl:RSlots) (o:Oper) (R:Rel):Prop:=
  ∀ a w,SlotsOk sl a → RelsAt (o.looksAt ops) rl a w → Mem c hs w → if Region.wanted o (yielded ops a.tmps) then QRun P o a w R else R.p undef w
def bnd (e:Edge):Bool:=Region.binds .any e
def opOk (o:Oper):Bool:=match o.op with | .select ..=>false | .defer _=>false | _=>true
def waitsOn (o:Oper) (i:Nat):Bool:=o.after.toList.any fun e=>bnd e && Nat.beq e.on i
def has (l:List Nat) (t:Nat):Bool:=l.any (Nat.beq t)
theorem has_iff {l:List Nat} {t:Nat}:has l t = true ↔ t ∈ l:=by
  simp [has,List.any_eq_true]
def pairOk (ops:Array Oper) (x y:Oper) (i:Nat):Bool:=
  match x.dst,y.dst with
  | some d,some e=>!Nat.beq d e && ((!has (y.looksAt ops) d && !has (x.looksAt ops) e) || waitsOn y i)
  | _,_=>false
def pairsOk (ops:Array Oper):List Oper → Nat → Bool
  | [],_=>true
  | x :: r,i=>r.all (fun y=>pairOk ops x y i) && pairsOk ops r (i + 1)
def acyc:List Oper → Nat → Bool
  | [],_=>true
  | o :: r,k=>o.after.toList.all (fun e=>!bnd e || Nat.blt e.on k) && acyc r (k + 1)
def maskOf (acc:List Nat) (o:Oper):Nat:=o.after.toList.foldl (fun s e=>if bnd e then s ||| 2 ^ e.on ||| acc.getD e.on 0 else s) 0
def masks:List Oper → List Nat → List Nat
  | [],acc=>acc
  | o :: r,acc=>masks r (acc++[maskOf acc o])
def tailOk (ms:List Nat):List Nat → Bool
  | []=>true
  | k :: r=>(List.range k).all (fun i=>(ms.getD k 0).testBit i) && tailOk ms r
def regOk (l:List Oper) (m:Nat):Bool:=
  l.all opOk && acyc l 0 && pairsOk l.toArray (l.take m) 0 && (l.take m).all (fun o=>o.dst.isSome) && tailOk (masks l []) (List.range' m (l.length - m)) && Nat.ble m l.length
theorem acyc_spec {l:List Oper}:∀ {s:Nat},acyc l s = true → ∀ {k:Nat} {o:Oper},l[k]? = some o → ∀ e ∈ o.after,bnd e = true → e.on < s + k:=by
  induction l with
  | nil=>intro s _ k o h;simp at h
  | cons x r ih =>
    intro s h k o hk e he hb
    simp only [acyc,Bool.and_eq_true,List.all_eq_true] at h
    cases k with
    | zero =>
      simp at hk;subst hk
      have:=h.1 e (by simpa using he)
      simpa [hb,Nat.blt_eq] using this
    | succ k =>
      have:=ih h.2 (k:=k) (by simpa using hk) e he hb
      omega
theorem masks_prefix:∀ (l:List Oper) (acc:List Nat),∃ t,masks l acc = acc++t ∧ t.length = l.length
  | [],acc=>⟨[],by simp [masks]⟩
  | o :: r, acc => by
    obtain ⟨t,h,hl⟩:=masks_prefix r (acc++[maskOf acc o])
    exact ⟨maskOf acc o :: t,by simp [masks,h],by simp [hl]⟩
theorem masks_spec:∀ (l:List Oper) (acc:List Nat) (k:Nat) (o:Oper),l[k]? = some o → (masks l acc).getD (acc.length + k) 0 = maskOf ((masks l acc).take (acc.length + k)) o
  | [],_,_,_,h=>by simp at h
  | x :: r, acc, k, o, h => by
    obtain ⟨t,ht,hl⟩:=masks_prefix r (acc++[maskOf acc x])
    cases k with
    | zero =>
      simp at h;subst h
      simp [masks,ht]
    | succ k =>
      have:=masks_spec r (acc++[maskOf acc x]) k o (by simpa using h)
      simp only [List.length_append,List.length_cons,List.length_nil] at this
      rw [show acc.length + (k + 1) = acc.length + (0 + 1) + k from by omega]
      exact this
theorem maskOf_spec (acc:List Nat) (i:Nat):∀ (es:List Edge) (s:Nat),(es.foldl (fun s e=>if bnd e then s ||| 2 ^ e.on ||| acc.getD e.on 0 else s) s).testBit i = true →
    s.testBit i = true ∨ ∃ e ∈ es,bnd e = true ∧ (i = e.on ∨ (acc.getD e.on 0).testBit i = true)
  | [],s,h=>.inl h
  | e :: es, s, h => by
    simp only [List.foldl_cons] at h
    rcases maskOf_spec acc i es _ h with h | ⟨e',he',hb,h⟩
    · by_cases hb:bnd e = true
      · simp only [hb,if_true,Nat.testBit_or,Bool.or_eq_true,Nat.testBit_two_pow,decide_eq_true_eq] at h
        rcases h with (h | h) | h
        · exact .inl h
        · exact .inr ⟨e,by simp,hb,.inl h.symm⟩
        · exact .inr ⟨e,by simp,hb,.inr h⟩
      · simp only [hb] at h
        exact .inl h
    · exact .inr ⟨e',by simp [he'],hb,h⟩
def DC (l:List Oper) (L:Nat → Prop):Prop:=∀ k o,l[k]? = some o → L k → ∀ e ∈ o.after,bnd e = true → L e.on
theorem masks_sound {l:List Oper} {L:Nat → Prop} (hdc:DC l L) (hac:acyc l 0 = true):∀ (k:Nat),k < l.length → L k → ∀ i,((masks l []).getD k 0).testBit i = true → L i:=by
  intro k
  induction k using Nat.strongRecOn with
  | _ k ih =>
    intro hk hL i hi
    have ho:l[k]? = some l[k]:=List.getElem?_eq_getElem hk
    have hm:=masks_spec l [] k _ ho
    simp only [List.length_nil,Nat.zero_add] at hm
    rw [hm] at hi
    unfold maskOf at hi
    rcases maskOf_spec _ i _ 0 hi with h | ⟨e,he,hb,h⟩
    · simp at h
    · have he':e ∈ l[k].after:=by simpa using he
      have hlt:e.on < k:=by have:=acyc_spec hac ho e he' hb;omega
      have hLe:=hdc k _ ho hL e he' hb
      rcases h with h | h
      · rw [h];exact hLe
      · refine ih e.on hlt (by omega) hLe i ?_
        have:((masks l []).take k).getD e.on 0 = (masks l []).getD e.on 0:=by
          simp [List.getD_eq_getElem?_getD,hlt]
        rwa [this] at h
theorem pairsOk_spec {ops:Array Oper} {l:List Oper}:∀ {s:Nat},pairsOk ops l s = true → ∀ {i j:Nat} {x y:Oper},i < j → l[i]? = some x → l[j]? = some y → pairOk ops x y (s + i) = true:=by
  induction l with
  | nil=>intro s _ i j x y _ h;simp at h
  | cons o r ih =>
    intro s h i j x y hij hx hy
    simp only [pairsOk,Bool.and_eq_true,List.all_eq_true] at h
    cases j with
    | zero=>omega
    | succ j =>
      cases i with
      | zero =>
        simp at hx;subst hx
        exact h.1 y (List.mem_of_getElem? (by simpa using hy))
      | succ i =>
        have:=ih h.2 (i:=i) (j:=j) (by omega) (by simpa using hx) (by simpa using hy)
        rwa [show s + 1 + i = s + (i + 1) from by omega] at this
theorem fill_act {sl:Slots} {T:List Nat} {a:Act} {nt:Nat} (hn:a.tmps.size = nt) (hk:∀ t v,sget sl t = some v → t < nt) (hT:∀ t ∈ T,∀ v,sget sl t = some v → a.tmps[t]? = some v) :
    ∃ a':Act,SlotsOk sl a' ∧ (∀ t ∈ T,a'.tmps[t]? = a.tmps[t]?) ∧ a'.tmps.size = nt:=by
  refine ⟨⟨Array.ofFn (n:=nt) fun t=>if (t:Nat) ∈ T then a.tmps.getD t undef else (sget sl t).getD undef,a.defers⟩,?_,?_,by simp⟩
  · intro t v hv
    have hlt:=hk t v hv
    simp only [Array.getElem?_ofFn,hlt,dif_pos]
    by_cases ht:t ∈ T
    · have:=hT t ht v hv
      simp [ht,Array.getD_eq_getD_getElem?,this]
    · simp [ht,hv]
  · intro t ht
    by_cases hlt:t < nt
    · have:a.tmps[t]? = some (a.tmps[t]'(by omega)):=Array.getElem?_eq_getElem (by omega)
      simp [ht,hlt,Array.getD_eq_getD_getElem?,this]
    · rw [Array.getElem?_eq_none (by simp;omega),Array.getElem?_eq_none (by omega)]
theorem eval_of_same {a a':Act} {x:Operand} (h:∀ t,x = .tmp t → a'.tmps[t]? = a.tmps[t]?):a'.eval x = a.eval x:=by
  cases x with
  | tmp t=>simp [Act.eval,Array.getD_eq_getD_getElem?,h t rfl]
  | _=>rfl
theorem exec_of_same {o:Oper} {ops:Array Oper} {a a':Act} (ho:opOk o = true) (h:∀ t ∈ o.looksAt ops,a'.tmps[t]? = a.tmps[t]?):execOp a'.eval o = execOp a.eval o:=by
  refine execOp_congr o (fun cs b he=>by simp [opOk,he] at ho) fun x hx=>eval_of_same fun t ht=>h t ?_
  subst ht
  unfold Oper.looksAt
  refine List.mem_append_left _ ?_
  simp only [List.mem_filterMap]
  exact ⟨_,by simpa using hx,rfl⟩
theorem wanted_of_same {o:Oper} {ops:Array Oper} {a a':Act} (h:∀ t ∈ o.looksAt ops,a'.tmps[t]? = a.tmps[t]?):Region.wanted o (yielded ops a'.tmps) = Region.wanted o (yielded ops a.tmps):=by
  unfold Region.wanted
  cases hg:o.guard with
  | none=>rfl
  | some gw =>
    obtain ⟨j,want⟩:=gw
    simp only []
    have:yielded ops a'.tmps j = yielded ops a.tmps j:=by
      unfold yielded
      cases hd:(ops[j]?).bind (·.dst) with
      | none=>rfl
      | some d =>
        have:=h d (by unfold Oper.looksAt;exact List.mem_append_right _ (by simp [hg,hd]))
        simp [this]
    rw [this]
inductive Plan (P:Program) (c:Cx) (hs:List Asn) (ops:Array Oper):List Oper → Slots → RSlots → List Rel → Slots → RSlots → Prop
  | nil {sl:Slots} {rl:RSlots}:Plan P c hs ops [] sl rl [] sl rl
  | val {o:Oper} {l:List Oper} {sl sl':Slots} {rl rl':RSlots} {d:Nat} {V:Value} {S:List Rel} (hd:o.dst = some d) (hdn:d < c.nt) (h:StepQ P c hs ops sl rl o (.val V)) (t:Plan P c hs ops l ((d,V) :: sl) rl S sl' rl') :
      Plan P c hs ops (o :: l) sl rl (.val V :: S) sl' rl'
  | rel {o:Oper} {l:List Oper} {sl sl':Slots} {rl rl':RSlots} {d:Nat} {R:Rel} {S:List Rel} (hd:o.dst = some d) (hdn:d < c.nt) (hn:sget sl d = none) (h:StepQ P c hs ops sl rl o R) (t:Plan P c hs ops l sl ((d,R) :: rl) S sl' rl') :
      Plan P c hs ops (o :: l) sl rl (R :: S) sl' rl'
theorem Plan.at_ {P:Program} {c:Cx} {hs:List Asn} {ops:Array Oper} {l:List Oper} {sl sl':Slots} {rl rl':RSlots} {S:List Rel} (h:Plan P c hs ops l sl rl S sl' rl') :
    ∀ (i : Nat) (o : Oper), l[i]? = some o → ∃ sli rli R, S[i]? = some R ∧ StepQ P c hs ops sli rli o R ∧
      (∀ t v,sget sli t = some v → (∃ (j:Nat) (oj:Oper),j < i ∧ l[j]? = some oj ∧ oj.dst = some t ∧ S[j]? = some (.val v)) ∨ ((∀ (j:Nat) (oj:Oper),j < i → l[j]? = some oj → oj.dst ≠ some t) ∧ sget sl t = some v)) ∧
      (∀ t Rt,(t,Rt) ∈ rli → (∃ (j:Nat) (oj:Oper),j < i ∧ l[j]? = some oj ∧ oj.dst = some t ∧ S[j]? = some Rt) ∨ (t,Rt) ∈ rl):=by
  induction h with
  | nil=>intro i o h;simp at h
  | @val o0 l sl sl' rl rl' d V S hd hdn hst t ih =>
    intro i o ho
    cases i with
    | zero =>
      simp at ho;subst ho
      exact ⟨sl,rl,.val V,rfl,hst,fun t v hv=>.inr ⟨fun j _ hj=>by omega,hv⟩,fun t Rt hm=>.inr hm⟩
    | succ i =>
      obtain ⟨sli,rli,R,hR,hs',h1,h2⟩:=ih i o (by simpa using ho)
      refine ⟨sli,rli,R,by simpa using hR,hs',fun t v hv=>?_,fun t Rt hm=>?_⟩
      · rcases h1 t v hv with ⟨j,oj,hj,hlj,hdj,hSj⟩ | ⟨hno,hv'⟩
        · exact .inl ⟨j + 1,oj,by omega,by simpa using hlj,hdj,by simpa using hSj⟩
        · by_cases hdt:d = t
          · subst hdt
            rw [sget_cons_eq] at hv'
            cases hv'
            exact .inl ⟨0,o0,by omega,rfl,hd,rfl⟩
          · rw [sget_cons_ne hdt] at hv'
            refine .inr ⟨fun j oj hj hlj=>?_,hv'⟩
            cases j with
            | zero=>simp at hlj;subst hlj;rw [hd];simp [hdt]
            | succ j=>exact hno j oj (by omega) (by simpa using hlj)
      · rcases h2 t Rt hm with ⟨j,oj,hj,hlj,hdj,hSj⟩ | hm'
        · exact .inl ⟨j + 1,oj,by omega,by simpa using hlj,hdj,by simpa using hSj⟩
        · exact .inr hm'
  | @rel o0 l sl sl' rl rl' d R0 S hd hdn hn hst t ih =>
    intro i o ho
    cases i with
    | zero =>
      simp at ho;subst ho
      exact ⟨sl,rl,R0,rfl,hst,fun t v hv=>.inr ⟨fun j _ hj=>by omega,hv⟩,fun t Rt hm=>.inr hm⟩
    | succ i =>
      obtain ⟨sli,rli,R,hR,hs',h1,h2⟩:=ih i o (by simpa using ho)
      refine ⟨sli,rli,R,by simpa using hR,hs',fun t v hv=>?_,fun t Rt hm=>?_⟩
      · rcases h1 t v hv with ⟨j,oj,hj,hlj,hdj,hSj⟩ | ⟨hno,hv'⟩
        · exact .inl ⟨j + 1,oj,by omega,by simpa using hlj,hdj,by simpa using hSj⟩
        · have hdt:d ≠ t:=fun e=>by subst e;rw [hn] at hv';cases hv'
          refine .inr ⟨fun j oj hj hlj=>?_,hv'⟩
          cases j with
          | zero=>simp at hlj;subst hlj;rw [hd];simp [hdt]
          | succ j=>exact hno j oj (by omega) (by simpa using hlj)
      · rcases h2 t Rt hm with ⟨j,oj,hj,hlj,hdj,hSj⟩ | hm'
        · exact .inl ⟨j + 1,oj,by omega,by simpa using hlj,hdj,by simpa using hSj⟩
        · rcases List.mem_cons.1 hm' with e | hm''
          · cases e
            exact .inl ⟨0,o0,by omega,rfl,hd,rfl⟩
          · exact .inr hm''
theorem Plan.end_ {P:Program} {c:Cx} {hs:List Asn} {ops:Array Oper} {l:List Oper} {sl sl':Slots} {rl rl':RSlots} {S:List Rel} (h:Plan P c hs ops l sl rl S sl' rl') :
      (∀ t v,sget sl' t = some v → (∃ (j:Nat) (oj:Oper),l[j]? = some oj ∧ oj.dst = some t ∧ S[j]? = some (.val v)) ∨ ((∀ (j:Nat) (oj:Oper),l[j]? = some oj → oj.dst ≠ some t) ∧ sget sl t = some v)) ∧
      (∀ t Rt,(t,Rt) ∈ rl' → (∃ (j:Nat) (oj:Oper),l[j]? = some oj ∧ oj.dst = some t ∧ S[j]? = some Rt) ∨ (t,Rt) ∈ rl) ∧
      (∀ (j:Nat) (oj:Oper),l[j]? = some oj → ∃ d R,oj.dst = some d ∧ d < c.nt ∧ S[j]? = some R):=by
  induction h with
  | nil=>exact ⟨fun t v hv=>.inr ⟨fun j oj h=>by simp at h,hv⟩,fun t Rt hm=>.inr hm,fun j oj h=>by simp at h⟩
  | @val o0 l sl sl' rl rl' d V S hd hdn hst t ih =>
    obtain ⟨h1,h2,h3⟩:=ih
    refine ⟨fun t v hv=>?_,fun t Rt hm=>?_,fun j oj hj=>?_⟩
    · rcases h1 t v hv with ⟨j,oj,hlj,hdj,hSj⟩ | ⟨hno,hv'⟩
      · exact .inl ⟨j + 1,oj,by simpa using hlj,hdj,by simpa using hSj⟩
      · by_cases hdt:d = t
        · subst hdt
          rw [sget_cons_eq] at hv'
          cases hv'
          exact .inl ⟨0,o0,rfl,hd,rfl⟩
        · rw [sget_cons_ne hdt] at hv'
          refine .inr ⟨fun j oj hlj=>?_,hv'⟩
          cases j with
          | zero=>simp at hlj;subst hlj;rw [hd];simp [hdt]
          | succ j=>exact hno j oj (by simpa using hlj)
    · rcases h2 t Rt hm with ⟨j,oj,hlj,hdj,hSj⟩ | hm'
      · exact .inl ⟨j + 1,oj,by simpa using hlj,hdj,by simpa using hSj⟩
      · exact .inr hm'
    · cases j with
      | zero=>simp at hj;subst hj;exact ⟨d,_,hd,hdn,rfl⟩
      | succ j=>obtain ⟨d',R',h⟩:=h3 j oj (by simpa using hj);exact ⟨d',R',by simpa using h⟩
  | @rel o0 l sl sl' rl rl' d R0 S hd hdn hn hst t ih =>
    obtain ⟨h1,h2,h3⟩:=ih
    refine ⟨fun t v hv=>?_,fun t Rt hm=>?_,fun j oj hj=>?_⟩
    · rcases h1 t v hv with ⟨j,oj,hlj,hdj,hSj⟩ | ⟨hno,hv'⟩
      · exact .inl ⟨j + 1,oj,by simpa using hlj,hdj,by simpa using hSj⟩
      · have hdt:d ≠ t:=fun e=>by subst e;rw [hn] at hv';cases hv'
        refine .inr ⟨fun j oj hlj=>?_,hv'⟩
        cases j with
        | zero=>simp at hlj;subst hlj;rw [hd];simp [hdt]
        | succ j=>exact hno j oj (by simpa using hlj)
    · rcases h2 t Rt hm with ⟨j,oj,hlj,hdj,hSj⟩ | hm'
      · exact .inl ⟨j + 1,oj,by simpa using hlj,hdj,by simpa using hSj⟩
      · rcases List.mem_cons.1 hm' with e | hm''
        · cases e
          exact .inl ⟨0,o0,rfl,hd,rfl⟩
        · exact .inr hm''
    · cases j with
      | zero=>simp at hj;subst hj;exact ⟨d,_,hd,hdn,rfl⟩
      | succ j=>obtain ⟨d',R',h⟩:=h3 j oj (by simpa using hj);exact ⟨d',R',by simpa using h⟩
end Go.SL
