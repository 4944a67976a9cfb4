/- Parts of the proof: GkStr V2 R1 R2 R3 R4 R5 R6 Q1p R7 R8 R9 R10 R11 Q2p R12 V3 TryzSplit. -/
import Derived.Test.YtfbgbipclgljaaaGreatDoorXM04
import Derived.Laws.Strings
import Derived.Laws.BytesString
import Derived.Test.YtfbgbipclgljaaaGreatDoorXM21
import Derived.Test.YtfbgbipclgljaaaGreatDoorXM05
import Derived.Test.YtfbgbipclgljaaaGreatDoorXM20
import Derived.Test.YtfbgbipclgljaaaGreatDoorXM19
import Derived.Test.YtfbgbipclgljaaaGreatDoorXM06
import Derived.Shelf.Strings.Split
import Derived.Shelf.Small.Strs
import Derived.Ground.NamesProg
import Derived.Ground.Names2Prog
import Derived.Test.YtfbgbipclgljaaaGreatDoorProg
set_option linter.unusedSectionVars false
set_option linter.unusedVariables false
set_option linter.unusedSimpArgs false
namespace Go.SL
open Go
section
variable {P:Program} {c:Cx} {sl:Slots} {hs:List Asn} {dst:Option Tmp} {ty:TypeId} {pos:String} {af:Array Edge} {g:Option (Nat × Bool)}
theorem rk_sliceS_h {t:TypeId} {x y:Operand} {s:ByteArray} {k:IntKind} {h:Int} [hu:Und P t .string] (hx:Is sl x (.string s)) (hy:Is sl y (.int k h)) (h0:0 ≤ h) (h1:h ≤ s.size) :
    RunV P c sl hs ⟨dst,.slice t x none (some y) none,ty,pos,af,g⟩ (.string (s.extract 0 h.toNat)):=
  ⟨by simp,fun ac w ha _=>by
    simp only [execOp,hx ac ha,hy ac ha,Option.map]
    refine value_of ?_
    rw [run_sliceAt_string _ _ _ _ _ _ hu.eq]
    simp [Instr.slice,rk_underlying hu.eq,Instr.sliceBounds,Instr.sliceBound,asIntOf,h0,h1]⟩
theorem rk_sliceS_l {t:TypeId} {x y:Operand} {s:ByteArray} {k:IntKind} {h:Int} [hu:Und P t .string] (hx:Is sl x (.string s)) (hy:Is sl y (.int k h)) (h0:0 ≤ h) (h1:h ≤ s.size) :
    RunV P c sl hs ⟨dst,.slice t x (some y) none none,ty,pos,af,g⟩ (.string (s.extract h.toNat s.size)):=
  ⟨by simp,fun ac w ha _=>by
    simp only [execOp,hx ac ha,hy ac ha,Option.map]
    refine value_of ?_
    rw [run_sliceAt_string _ _ _ _ _ _ hu.eq]
    simp [Instr.slice,rk_underlying hu.eq,Instr.sliceBounds,Instr.sliceBound,asIntOf,h0,h1]⟩
theorem rk_sliceS_lh {t:TypeId} {x y z:Operand} {s:ByteArray} {k k':IntKind} {l h:Int} [hu:Und P t .string] (hx:Is sl x (.string s)) (hy:Is sl y (.int k l)) (hz:Is sl z (.int k' h)) (h0:0 ≤ l) (h1:l ≤ h) (h2:h ≤ s.size) :
    RunV P c sl hs ⟨dst,.slice t x (some y) (some z) none,ty,pos,af,g⟩ (.string (s.extract l.toNat h.toNat)):=
  ⟨by simp,fun ac w ha _=>by
    have e:(h.toNat:Int) = h:=Int.toNat_of_nonneg (by omega)
    simp only [execOp,hx ac ha,hy ac ha,hz ac ha,Option.map]
    refine value_of ?_
    rw [run_sliceAt_string _ _ _ _ _ _ hu.eq]
    simp [Instr.slice,rk_underlying hu.eq,Instr.sliceBounds,Instr.sliceBound,asIntOf,h0,h1,h2,e,show 0 ≤ h by omega]⟩
theorem rk_nilCheck {x:Operand} {a:Addr} (hx:Is sl x (.pointer (some a))):RunV P c sl hs ⟨dst,.nilCheck x,ty,pos,af,g⟩ (.pointer (some a)):=
  ⟨by simp,fun ac w ha _=>by simp [execOp,hx ac ha]⟩
def strOf (ns:List Int):ByteArray:=ns.foldl (fun r n=>r.push (UInt8.ofNat n.toNat)) ByteArray.empty
theorem rk_convBSn {t u e:TypeId} {x:Operand} {b o n cp:Nat} {ns:List Int} [ht:Und P t (.slice e)] [he:Und P e (.int .u8)] [hu:Und P u .string] (hx:Is sl x (.slice (some ⟨b,o,none⟩) n cp)) (hv:Ats c hs b o (ns.map (Value.int .u8))) (hl:ns.length = n) :
    RunV P c sl hs ⟨dst,.convert t u x,ty,pos,af,g⟩ (.string (strOf ns)):=
  ⟨by simp,fun ac w ha hm=>by
    have h1:=rk_loadCells (P:=P) (w:=w) (b:=b) (o:=o) (n:=n) (vs:=ns.map (Value.int .u8)) (by rw [List.length_map,hl]) (fun j v h=>hv.get j v h w hm)
    have h2:=run_bytesToString (P:=P) w ⟨b,o,none⟩ n cp ns h1
    simp only [execOp,hx ac ha]
    refine value_of ?_
    rw [run_convert_bytes_string w t u e _ _ _ ht.eq he.eq hu.eq,h2]
    rfl⟩
theorem rk_convBS {t u e:TypeId} {x:Operand} {b o cp:Nat} {n:Int} [ht:Und P t (.slice e)] [he:Und P e (.int .u8)] [hu:Und P u .string] (hx:Is sl x (.slice (some ⟨b,o,none⟩) 1 cp)) (hv:At c hs b o (.int .u8 n)) :
    RunV P c sl hs ⟨dst,.convert t u x,ty,pos,af,g⟩ (.string ⟨#[UInt8.ofNat n.toNat]⟩):=
  rk_convBSn (e:=e) (ns:=[n]) hx (Ats.of_get fun j v h=>by
    match j,h with
    | 0,h=>cases h;exact hv
    | j + 1,h=>simp at h) rfl
end
section
variable {P:Program} {c:Cx} {D:List Nat} {hs:List Asn} {Q:Exit → Act → World → Prop} {l:List Oper} {m i n d:Nat} {op:Op} {ty:TypeId} {pos:String} {af:Array Edge} {rest:List Oper} {SL:(Nat → Value) → Slots} {S:List StepP}
theorem am_valR {F:(Nat → Value) → Value} (j:Nat) {s:StepP} (hS:S[j]? = some s) (hw:waitsOn ⟨some d,op,ty,pos,af,none⟩ j = true) (hr:∀ β,RunV P c (SL β) (s.A β++hs) ⟨some d,op,ty,pos,af,none⟩ (F β)) (hi:Indep l i F) (hd:Nat.blt d c.nt = true) (k:AnyM P c D hs l Q m (i + 1) n rest (fun β=>(d,F β) :: SL β) (S++[⟨F,fun _=>[]⟩])) :
    AnyM P c D hs l Q m i (n + 1) (⟨some d,op,ty,pos,af,none⟩ :: rest) SL S:=
  am_step (s:=⟨F,fun _=>[]⟩) rfl hd ⟨hi,fun _ _ _=>rfl,[j],by simpa using hw,fun β a w h1 h2=>by
    rw [if_pos (by simp [Region.wanted])]
    unfold MRun
    rw [(hr β).2 a w h1 (h2.at j (by simp) hS)]
    exact ⟨β i,by rw [upd_self],.refl _ _,[],List.nodup_nil,rfl,by simp⟩⟩ k
theorem indC {v:Value}:Indep l i (fun _=>v):=fun _ _ _=>rfl
end
section
variable {P:Program} {c:Cx} {D:List Nat} {sl:Slots} {hs:List Asn} {Q:Exit → Act → World → Prop} {ops:Array Oper} {fuel:Nat} {listed:Array Bool}
theorem left_takeOn (i:Nat) {d j gs:Nat} {want:Bool} {op:Op} {ty:TypeId} {pos:String} {af:Array Edge} {V:Value} (hi:ops[i]? = some ⟨some d,op,ty,pos,af,some (j,want)⟩) (hs1:Region.noSelect ops = true) (hf:Region.free .any ops listed i = true) (hr:(Region.ready .any ops listed).contains i = true)
    (hj:((ops[j]?).bind (·.dst)) = some gs) (hq:sget sl gs = some (.bool want)) (hab:∀ (w:World) (ρ:Operand → Value),Oper.about P w ρ ⟨some d,op,ty,pos,af,some (j,want)⟩ = none) (hv:∀ w,RunV P ⟨w,[],0⟩ sl [] ⟨some d,op,ty,pos,af,none⟩ V) (hd:Nat.blt d c.nt = true)
    (k:Tr c D ((d,V) :: sl) hs (Left P ops Q fuel (listed.setIfInBounds i true))):Tr c D sl hs (Left P ops Q (fuel + 1) listed):=fun a w hst=>by
  refine wpAnyIn_take (oi:=⟨some d,op,ty,pos,af,some (j,want)⟩) rfl hi hs1 hf hr (fun c a w h=>h) (v:=V) ⟨.inl ⟨?_,fun w'=>?_⟩,fun w'=>hab w' _⟩ (k _ _ (hst.put (by simpa [Nat.blt_eq] using hd) V))
  · rw [wanted_gv (o:=⟨some d,op,ty,pos,af,some (j,want)⟩) (c0:=true) rfl hj hst.slots (by rw [hq];rfl)];simp
  · exact (hv w').2 a w' hst.slots ⟨.refl _ _,[],List.nodup_nil,rfl,by simp⟩
theorem left_takeOff (i:Nat) {d j gs:Nat} {want:Bool} {v:Value} {op:Op} {ty:TypeId} {pos:String} {af:Array Edge} (hi:ops[i]? = some ⟨some d,op,ty,pos,af,some (j,want)⟩) (hs1:Region.noSelect ops = true) (hf:Region.free .any ops listed i = true) (hr:(Region.ready .any ops listed).contains i = true)
    (hj:((ops[j]?).bind (·.dst)) = some gs) (hq:sget sl gs = some v) (hv:v = undef ∨ v = .bool (!want)) (hab:∀ (w:World) (ρ:Operand → Value),Oper.about P w ρ ⟨some d,op,ty,pos,af,some (j,want)⟩ = none) (hd:Nat.blt d c.nt = true)
    (k:Tr c D ((d,undef) :: sl) hs (Left P ops Q fuel (listed.setIfInBounds i true))):Tr c D sl hs (Left P ops Q (fuel + 1) listed):=fun a w hst=>by
  refine wpAnyIn_take (oi:=⟨some d,op,ty,pos,af,some (j,want)⟩) rfl hi hs1 hf hr (fun c a w h=>h) (v:=undef) ⟨.inr ⟨?_,rfl⟩,fun w'=>hab w' _⟩ (k _ _ (hst.put (by simpa [Nat.blt_eq] using hd) undef))
  have hw:∃ c0 q,gv c0 (.bool q) = v ∧ (c0 && (q == want)) = false:=by
    rcases hv with e | e
    · exact ⟨false,want,by rw [e];rfl,rfl⟩
    · exact ⟨true,!want,by rw [e];rfl,by cases want <;> rfl⟩
  obtain ⟨c0,q,e,hcq⟩:=hw
  rw [wanted_gv (o:=⟨some d,op,ty,pos,af,some (j,want)⟩) (c0:=c0) (q:=q) rfl hj hst.slots (by rw [hq,e]),hcq]
end
section
variable {P:Program} {r:Option Nat} {c:Cx} {D:List Nat} {sl:Slots} {hs:List Asn} {Q:Exit → Act → World → Prop} {ops:Array Oper} {fuel i:Nat} {listed:Array Bool}
def LeftR (P:Program) (r:Option Nat) (ops:Array Oper) (Q:Exit → Act → World → Prop) (fuel:Nat) (listed:Array Bool):Act → World → Prop:=wpAnyIn (FR r) 0 P .any ops (NP Q) fuel listed
theorem tr_leftR {id:Nat} {l:List Oper} (n:Nat) [hmix:Mix P] (hn:l.length = n) (k:Tr c D sl hs (LeftR P r l.toArray Q n (Array.replicate n false))):Tr c D sl hs (WP P r (.region id l.toArray true) Q):=fun a w hst=>by
  subst hn
  have h:(Code.region id l.toArray true).wpIn (FR r) 0 P (NP Q) a w:=wpIn_region_any hmix.eq (by
    have:=k a w.drew (hst.heap hst.mem.drew)
    simpa [LeftR] using this)
  exact wpIn_mono h fun e a' w' h=>by
    cases e with
    | panic c=>exact h.elim
    | _=>exact h
def NextR (P:Program) (r:Option Nat) (c:Cx) (D:List Nat) (sl:Slots) (hs:List Asn) (ops:Array Oper) (Q:Exit → Act → World → Prop) (fuel:Nat) (listed:Array Bool) (i:Nat):Prop:=
  ∀ a w,St c D sl hs a w → wpOpIn (FR r) 0 P ops (NP Q) i (LeftR P r ops Q fuel (listed.setIfInBounds i true)) a w
theorem leftR_ready {rs:List Nat} (hr:Region.ready .any ops listed = rs) (hne:rs ≠ []) (h:∀ i ∈ rs,NextR P r c D sl hs ops Q fuel listed i):Tr c D sl hs (LeftR P r ops Q (fuel + 1) listed):=fun a w hst=>
  wpAnyIn_all hr hne fun i hi=>h i hi a w hst
theorem nextR_step {d:Option Tmp} {op:Op} {ty:TypeId} {pos:String} {af:Array Edge} {g:Option (Nat × Bool)} (hi:ops[i]? = some ⟨d,op,ty,pos,af,g⟩) (h:Tr c D sl hs (WL P r ops (Exit.then (LeftR P r ops Q fuel (listed.setIfInBounds i true)) (NP Q)) [⟨d,op,ty,pos,af,g⟩])):NextR P r c D sl hs ops Q fuel listed i:=fun a w hst=>by
  have h1:=h a w hst
  unfold wpOpIn
  simp only [hi]
  unfold WL at h1
  split
  · rename_i hw
    rw [if_pos hw] at h1
    exact Oper.wpIn_mono2 (fun a w h=>h) (fun c a w h=>h) (fun h=>h) h1
  · rename_i hw
    rw [if_neg hw] at h1
    exact ⟨fun _ _=>trivial,h1⟩
theorem leftR_done (hr:Region.ready .any ops listed = []) (k:Tr c D sl hs (Q .normal)):Tr c D sl hs (LeftR P r ops Q fuel listed):=fun a w hst=>
  wpAnyIn_done (Q:=NP Q) hr (k a w hst) fuel
end
end Go.SL
namespace Go.Proofs.A1
open Go Go.SL
def strs (ls:List (List UInt8)):List Value:=ls.map fun l=>Value.string (bsL l)
theorem strs_length (ls:List (List UInt8)):(strs ls).length = ls.length:=by simp [strs]
theorem strs_strB (ls:List (List UInt8)):strs ls = (ls.map bsL).map Value.string:=by simp [strs]
theorem bt_at {s:ByteArray} {i:Nat} {l r:List UInt8} {x:UInt8} (h:toL s = l++x :: r) (hi:l.length = i):(((s.data.toList[i]?.getD 0).toNat:Nat):Int) = x.toNat:=by
  rw [show s.data.toList = l++x :: r from h,List.getElem?_append_right (by omega),hi,Nat.sub_self];rfl
theorem toL_split {s:ByteArray} {i:Nat} (h:i < s.size):∃ x r,toL s = (toL s).take i++x :: r ∧ (toL s).take (i + 1) = (toL s).take i++[x] ∧ (toL s)[i]? = some x:=by
  have hl:i < (toL s).length:=by rw [← size_toL];exact h
  refine ⟨(toL s)[i],(toL s).drop (i + 1),?_,?_,List.getElem?_eq_getElem hl⟩
  · rw [← List.drop_eq_getElem_cons hl,List.take_append_drop]
  · rw [List.take_succ_eq_append_getElem hl]
theorem u8w {x:Int} (h:0 ≤ x ∧ x ≤ 255):IntKind.u8.wrap x = x:=by unfold IntKind.wrap;simp [IntKind.signed,IntKind.bits];omega
theorem i64w {x:Int} (h:-9223372036854775808 ≤ x ∧ x ≤ 9223372036854775807):IntKind.i64.wrap x = x:=by unfold IntKind.wrap;simp [IntKind.signed,IntKind.bits];omega
theorem strs_set {l:List (List UInt8)} {x:List UInt8} (h:l ≠ []) (cur:List Value):setCells (strs l++cur) ((l.length - 1) * 1) [Value.string (bsL x)] = strs (l.dropLast++[x])++cur:=by
  have hp:0 < l.length:=List.length_pos_iff.2 h
  apply List.ext_getElem?
  intro k
  rw [setCells_get _ _ _ _ (by simp [strs];omega)]
  simp only [List.length_singleton,Nat.mul_one]
  by_cases hk:k < l.length - 1
  · rw [if_neg (by omega),List.getElem?_append_left (by rw [strs_length];omega),List.getElem?_append_left (by simp [strs];omega)]
    simp only [strs,List.getElem?_map]
    rw [List.getElem?_append_left (by simp;omega),List.getElem?_dropLast,if_pos hk]
  · by_cases hk2:k = l.length - 1
    · subst hk2
      rw [if_pos (by omega),List.getElem?_append_left (by simp [strs])]
      simp only [strs,List.getElem?_map]
      rw [List.getElem?_append_right (by simp)]
      simp
    · rw [if_neg (by omega),List.getElem?_append_right (by rw [strs_length];omega),List.getElem?_append_right (by simp [strs];omega)]
      simp [strs]
      congr 1
      omega
theorem strs_last {l:List (List UInt8)} (h:l ≠ []) (cur:List Value):(strs l++cur)[(l.length - 1) * 1]? = some (.string (bsL (l.getLastD []))):=by
  have hp:0 < l.length:=List.length_pos_iff.2 h
  rw [Nat.mul_one,List.getElem?_append_left (by rw [strs_length];omega)]
  simp only [strs,List.getElem?_map]
  rw [List.getLastD_eq_getLast?,List.getLast?_eq_getElem?]
  rw [List.getElem?_eq_getElem (by omega)]
  rfl
theorem split_q {s:ByteArray} {c:UInt8} (hs:s.size ≤ 5000) (w:World):Gives Tryz.prog 89 [.string s,.int .u8 (c.toNat:Nat)] w [] (fun _:Value=>True) id (fun v=>[row 9 1 v (splL c (toL s)).length (strs (splL c (toL s)))]):=by
  refine gives_of_tr Tryz.func89 rfl rfl ?_
  (refine s_r ?_;refine a_s rfl rfl ?_;refine n_r ?_;refine tr_new (rk_sliceLit (.cons (.of rfl) .nil) rfl rfl rfl rfl) rfl (fun _ _=>?_);refine a_s rfl rfl ?_;refine n_t ?_;refine tr_seq ?_;refine s_r ?_;refine a_s rfl rfl ?_;refine n_t ?_;refine tr_block ?_)
  rename_i b hb
  refine tr_rowLitE (g:=b) (E:=9) (ys:=[.string ⟨#[]⟩]) 1 1 (by exact .here) (by exact rfl) rfl rfl ?_
  refine tr_for (ι:=Nat × Value) (fun x=>x.1 ≤ s.size) (fun x=>[(6,.int .i64 (x.1:Int)),(5,x.2),(0,.string s),(1,.int .u8 (c.toNat:Nat))])
    (fun x=>[row 9 1 x.2 (splL c ((toL s).take x.1)).length (strs (splL c ((toL s).take x.1)))]) (fun x=>s.size - x.1) ?_ ?_
  · apply tr_start (0,.slice (some ⟨b,0,none⟩) 1 1) (Nat.zero_le _)
    case hs1=>exact .cons rfl (.cons rfl (.cons rfl (.cons rfl .nil)))
    case ht=>
      show Takes _ [row 9 1 (.slice (some ⟨b,0,none⟩) 1 1) 1 [.string ⟨#[]⟩]] _
      exact .cons .here .nil
  rintro ⟨i,v⟩ hi
  dsimp only at hi ⊢
  by_cases hlt:i < s.size
  · obtain ⟨x,r,hx1,hx2,hx3⟩:=toL_split hlt
    have hb0:=bt_at (i:=i) hx1 (by rw [List.length_take,← size_toL];omega)
    have hle:=splL_le c ((toL s).take i)
    have hpos:=splL_pos c ((toL s).take i)
    have hne:=splL_ne c ((toL s).take i)
    have hsn:=splL_snoc c x ((toL s).take i)
    rw [← hx2] at hsn
    rw [List.length_take,← size_toL] at hle
    have hmin:min i s.size = i:=by omega
    rw [hmin] at hle
    refine tr_rowSl (E:=9) (sz:=1) (v:=v) (by exact .here) fun va vc e=>?_
    subst e
    have hbx:¬ x = c → ¬ (((s.data.toList[((i:Nat):Int).toNat]?.getD 0).toNat:Nat):Int) = (c.toNat:Nat):=fun h e=>by
      rw [Int.toNat_natCast,hb0] at e
      exact h (UInt8.toNat.inj (by omega))
    (refine tr_seq ?_;refine s_r ?_;refine m_v rfl rfl ?_;refine m_v rfl rfl ?_;refine tr_val (rk_len_string (.of rfl)) rfl ?_;refine tr_val (rk_lss (.of rfl) (.of rfl)) rfl ?_;refine n_t ?_;refine c_d rfl (fun hcd=>?_) (fun _=>by omega);refine s_t ?_;refine tr_seq ?_;refine tr_block ?_;refine tr_seq ?_;refine s_r ?_;refine m_v rfl rfl ?_;refine m_v rfl rfl ?_;refine tr_val (rk_indexS (.of rfl) (.of rfl) (by omega) hcd) rfl ?_;refine m_v rfl rfl ?_;refine tr_val (rk_eql (.of rfl) (.of rfl)) rfl ?_;refine n_t ?_;refine c_d rfl (fun hcd=>?_) (fun hcd=>?_);refine s_r ?_;refine m_v rfl rfl ?_;refine tr_new (rk_sliceLit (.cons (.of rfl) .nil) rfl rfl rfl rfl) rfl (fun _ _=>?_);rotate_left;refine s_t ?_;rotate_right)
    · have hxc:x = c:=Decidable.byContradiction fun h=>hbx h hcd
      rw [if_pos hxc] at hsn
      refine tr_appendB (.of rfl) (.of rfl) (.there .here) .here norm_ (by rfl) (okc_cons rfl okc_nil) (by rfl) (by rfl) (by rfl) lenx_ (by rfl) ?_
      intro v'
      (refine a_s rfl rfl ?_;refine n_t ?_;refine x_t ?_;refine tr_blk_exit ?_;refine tr_then ?_;refine tr_region ?_;refine m_v rfl rfl ?_;refine tr_val (rk_add (.of rfl) (.of rfl) (ini (by omega))) rfl ?_;refine a_s rfl rfl ?_;refine n_t ?_)
      apply tr_next (i + 1,v') (show (fun x:Nat × Value=>x.1 ≤ s.size) (i + 1,v') from hlt) (by show s.size - (i + 1) < s.size - i;omega)
      case hs1=>exact .cons rfl (.cons rfl (.cons rfl (.cons rfl .nil)))
      case ht=>
        show Takes _ [row 9 1 v' (splL c ((toL s).take (i + 1))).length (strs (splL c ((toL s).take (i + 1))))] _
        rw [hsn,List.length_append,List.length_singleton,show strs (splL c ((toL s).take i)++[[]]) = strs (splL c ((toL s).take i))++[.string ⟨#[]⟩] by simp only [strs,List.map_append];rfl]
        exact .cons .here .nil
    · have hxc:¬ x = c:=fun h=>hcd (by rw [Int.toNat_natCast,hb0,h])
      rw [if_neg hxc] at hsn
      refine tr_rowOpen (E:=9) (sz:=1) (v:=.slice va (splL c ((toL s).take i)).length vc) (by exact .here) hpos fun g gcap gcur e hk1 hx1' hz1 hl1=>?_
      obtain ⟨rfl,-,rfl⟩:=Value.slice.inj e
      unfold maxLen at hx1'
      have q0:=strs_last hne gcur
      have q1:=strs_set (x:=(splL c ((toL s).take i)).getLastD []++[x]) hne gcur
      have q2:((splL c ((toL s).take i)).length - 1) * 1 + 1 ≤ (strs (splL c ((toL s).take i))++gcur).length:=by
        rw [List.length_append,strs_length];omega
      have e1:(((splL c ((toL s).take i)).length:Int) - 1).toNat = (splL c ((toL s).take i)).length - 1:=by omega
      rw [← e1] at q0 q1 q2
      have hex:toL (s.extract ((i:Nat):Int).toNat (((i:Nat):Int) + 1).toNat) = [x]:=by
        rw [show ((i:Nat):Int).toNat = i by omega,show (((i:Nat):Int) + 1).toNat = i + 1 by omega,toL_extract,hx2]
        exact List.drop_left' (by rw [List.length_take,← size_toL];omega)
      have hsz2:(s.extract ((i:Nat):Int).toNat (((i:Nat):Int) + 1).toNat).size = 1:=by rw [size_toL,hex];rfl
      have hsz1:(bsL ((splL c ((toL s).take i)).getLastD [])).size ≤ 5000:=by
        rw [bsL_size]
        have hm:(splL c ((toL s).take i)).getLastD [] ∈ splL c ((toL s).take i):=by
          rw [List.getLastD_eq_getLast?,List.getLast?_eq_some_getLast hne]
          exact List.getLast_mem hne
        have:=splL_len c _ _ hm
        rw [List.length_take,← size_toL] at this
        omega
      have hval:bsL ((splL c ((toL s).take i)).getLastD [])++s.extract ((i:Nat):Int).toNat (((i:Nat):Int) + 1).toNat = bsL ((splL c ((toL s).take i)).getLastD []++[x]):=toL_inj (by rw [toL_append,toL_bsL,toL_bsL,hex])
      with_reducible refine tr_draw 17 (by kernel_rfl) ?_
      (refine a_m rfl rfl ?_;refine a_m rfl rfl ?_;refine any_val (rk_len_slice (.of rfl)) rfl ?_;refine any_val (rk_sub (.of rfl) (.of rfl) (ini (by omega))) rfl ?_;refine a_m rfl rfl ?_;refine a_m rfl rfl ?_;refine any_val (rk_len_slice (.of rfl)) rfl ?_;refine any_val (rk_sub (.of rfl) (.of rfl) (ini (by omega))) rfl ?_;refine any_val (rk_indexAddr (.of rfl) (.of rfl) rfl (by omega) (by omega) norm1_) rfl ?_;refine any_val (rk_load1 (.of rfl) (At.blkL .here q0)) rfl ?_;refine a_m rfl rfl ?_;refine a_m rfl rfl ?_;refine a_m rfl rfl ?_;refine any_val (rk_add (.of rfl) (.of rfl) (ini (by omega))) rfl ?_;refine any_val (rk_sliceS_lh (.of rfl) (.of rfl) (.of rfl) (by omega) (by omega) (by omega)) rfl ?_;refine any_val (rk_cat (.of rfl) (.of rfl) (by omega)) rfl ?_;refine any_val (rk_indexAddr (.of rfl) (.of rfl) rfl (by omega) (by omega) norm1_) rfl ?_)
      with_reducible refine any_end ?_
      rw [hval]
      refine tr_store (.of rfl) (.of rfl) .here rfl rfl (okc_cons rfl okc_nil) q2 q1 ?_
      (refine tr_nil ?_;refine tr_blk_normal ?_;refine tr_then ?_;refine tr_region ?_;refine m_v rfl rfl ?_;refine tr_val (rk_add (.of rfl) (.of rfl) (ini (by omega))) rfl ?_;refine a_s rfl rfl ?_;refine n_t ?_)
      have e2:(splL c ((toL s).take (i + 1))).length = (splL c ((toL s).take i)).length:=by rw [hsn,List.length_append,List.length_dropLast,List.length_singleton];omega
      refine tr_rowShut (E:=9) (sz:=1) (n:=(splL c ((toL s).take i)).length) (cap:=vc) (xs:=strs (splL c ((toL s).take (i + 1)))) (cur:=gcur) (g:=g) (by rw [hsn];exact .here) hk1 (by unfold maxLen;omega) (by rw [List.length_append,strs_length] at hz1 ⊢;rw [e2];exact hz1) (by rw [strs_length,Nat.mul_one,e2]) ?_
      apply tr_next (i + 1,.slice (some ⟨g,0,none⟩) (splL c ((toL s).take i)).length vc) (show (fun x:Nat × Value=>x.1 ≤ s.size) (i + 1,.slice (some ⟨g,0,none⟩) (splL c ((toL s).take i)).length vc) from hlt) (by show s.size - (i + 1) < s.size - i;omega)
      case hs1=>exact .cons rfl (.cons rfl (.cons rfl (.cons rfl .nil)))
      case ht=>
        show Takes _ [row 9 1 (.slice (some ⟨g,0,none⟩) (splL c ((toL s).take i)).length vc) (splL c ((toL s).take (i + 1))).length (strs (splL c ((toL s).take (i + 1))))] _
        rw [e2]
        exact .cons .here .nil
  · obtain rfl:i = s.size:=by omega
    rw [List.take_of_length_le (by rw [← size_toL];exact Nat.le_refl _)]
    (refine tr_seq ?_;refine s_r ?_;refine m_v rfl rfl ?_;refine m_v rfl rfl ?_;refine tr_val (rk_len_string (.of rfl)) rfl ?_;refine tr_val (rk_lss (.of rfl) (.of rfl)) rfl ?_;refine n_t ?_;refine c_d rfl (fun _=>by omega) (fun hcd=>?_);refine x_t ?_;refine tr_then_exit ?_;refine tr_blk_exit ?_;refine tr_then ?_;refine s_r ?_;refine m_v rfl rfl ?_;refine a_s rfl rfl ?_;refine n_t ?_;refine tr_ret ?_)
    first | with_reducible apply tr_retM | with_reducible apply tr_endM
    case he=>exact ends1 rfl rfl
    case hR=>
      intro w' hm'
      exact gives_end v trivial (show Takes _ [row 9 1 v (splL c (toL s)).length (strs (splL c (toL s)))] _ by exact .cons .here .nil) hm' rfl
end Go.Proofs.A1
namespace Go.Proofs.A1
open Go Go.SL
end Go.Proofs.A1
namespace Go.Proofs.A1
open Go Go.SL
end Go.Proofs.A1
namespace Go.Proofs.A1
open Go Go.SL
end Go.Proofs.A1
namespace Go.Proofs.A1
open Go Go.SL
end Go.Proofs.A1
namespace Go.Proofs.A1
open Go Go.SL
end Go.Proofs.A1
namespace Go.Proofs.A1
open Go Go.SL
end Go.Proofs.A1
namespace Go.Proofs.A1
open Go Go.SL
end Go.Proofs.A1
namespace Go.Proofs.A1
open Go Go.SL
end Go.Proofs.A1
namespace Go.Proofs.A1
open Go Go.SL
end Go.Proofs.A1
namespace Go.Proofs.A1
open Go Go.SL
instance decEn:DecidableEq En:=fun a b=>decidable_of_iff (a.nm = b.nm ∧ a.mt = b.mt ∧ a.kd = b.kd ∧ a.tm = b.tm ∧ a.ln = b.ln ∧ a.ov = b.ov) (by cases a;cases b;simp)
theorem sameQ_c {v1 v2:Value} {l1 l2:List En} {w:World} (h1:Rd w v1 6 (ensL l1)) (h2:Rd w v2 6 (ensL l2)):GivesV Tryz.prog 85 [.agg #[v1],.agg #[v2]] w (.bool (decide (l1 = l2))):=by
  obtain ⟨a,cap,b,o,rfl,hcap,hmax,ha,hc⟩:=h1
  obtain ⟨a2,cap2,b2,o2,rfl,hcap2,hmax2,ha2,hc2⟩:=h2
  rw [ensL_length] at *
  rw [ensL_length] at *
  unfold maxLen at hmax hmax2
  refine givesV_of_tr Tryz.func85 rfl rfl ?_
  (refine s_r ?_;refine tr_new (rk_box (.of rfl) rfl) rfl (fun _ _=>?_);refine tr_new (rk_box (.of rfl) rfl) rfl (fun _ _=>?_);refine a_s rfl rfl ?_;refine n_t ?_;refine tr_seq ?_;refine s_r ?_;refine f_a rfl rfl norm0_ ?_;refine tr_val (rk_load1 (.of rfl) (At.lit (.there .here) rfl)) rfl ?_;refine tr_val (rk_len_slice (.of rfl)) rfl ?_;refine f_a rfl rfl norm0_ ?_;refine tr_val (rk_load1 (.of rfl) (At.lit .here rfl)) rfl ?_;refine tr_val (rk_len_slice (.of rfl)) rfl ?_;refine tr_val (rk_neq (.of rfl) (.of rfl)) rfl ?_;refine n_t ?_;refine c_d rfl (fun hcd=>?_) (fun hcd=>?_);refine s_r ?_;refine a_s rfl rfl ?_;refine n_t ?_;refine r_t ?_;refine tr_retE rfl (ends1 rfl rfl) ?_;rotate_left;refine s_t ?_;refine tr_seq ?_;refine s_r ?_;refine a_s rfl rfl ?_;refine n_t ?_;refine tr_block ?_;rotate_right)
  · rw [decide_eq_false (fun e=>hcd (by rw [e]))]
  have hlen:l1.length = l2.length:=by omega
  rename_i c1 hc1 c2 hc2'
  refine tr_for (fun k:Nat=>k ≤ l1.length ∧ ∀ i,i < k → l1[i]? = l2[i]?) (fun k=>[(5,.int .i64 k),(2,.pointer (some ⟨c1,0,none⟩)),(3,.pointer (some ⟨c2,0,none⟩))]) (fun _=>[blk c2 (.cells #[.slice a2 l2.length cap2] 24 (0,0)),blk c1 (.cells #[.slice a l1.length cap] 24 (0,0))]) (fun k=>l1.length - k) ?_ ?_
  · apply tr_start 0 ⟨Nat.zero_le _,fun i h=>by omega⟩
    case hs1=>exact .cons rfl (.cons rfl (.cons rfl .nil))
    case ht=>(try simp only [List.take_zero,List.map_nil,List.nil_append]);exact .cons .here (.cons .here .nil)
  rintro k ⟨hk,hf⟩
  by_cases hlt:k < l1.length
  · have hlt2:k < l2.length:=by omega
    have ha':=ha (ensL_ne hlt)
    have ha2':=ha2 (ensL_ne hlt2)
    have hcell:=(hc k _ (ensL_get hlt)).2
    have hcell2:=(hc2 k _ (ensL_get hlt2)).2
    have hx1:=nth_eq hlt
    have hy1:=nth_eq hlt2
    generalize hx:nth l1 k = x at hcell hx1
    generalize hy:nth l2 k = y at hcell2 hy1
    obtain ⟨x0,x1,x2,x3,x4,x5⟩:=x
    obtain ⟨y0,y1,y2,y3,y4,y5⟩:=y
    unfold En.cells at hcell hcell2
    dsimp only at hcell hcell2
    (refine tr_seq ?_;refine s_r ?_;refine m_v rfl rfl ?_;refine f_a rfl rfl norm0_ ?_;refine tr_val (rk_load1 (.of rfl) (At.lit (.there .here) rfl)) rfl ?_;refine tr_val (rk_len_slice (.of rfl)) rfl ?_;refine tr_val (rk_lss (.of rfl) (.of rfl)) rfl ?_;refine n_t ?_;refine c_d rfl (fun hcd=>?_) (fun _=>by omega);refine s_t ?_;refine tr_seq ?_;refine tr_block ?_;refine tr_seq ?_)
    with_reducible refine tr_draw 11 (by kernel_rfl) ?_
    (refine a_f rfl rfl norm0_ ?_;refine any_val (rk_load1 (.of rfl) (At.lit (.there .here) rfl)) rfl ?_;refine a_m rfl rfl ?_;refine any_val (rk_indexAddr (.of rfl) (.of rfl) ha' (by omega) hcd norm1_) rfl ?_;refine any_val (rk_loadN (.of rfl) (Ats.base hcell rfl) rfl) rfl ?_;refine a_f rfl rfl norm0_ ?_;refine any_val (rk_load1 (.of rfl) (At.lit .here rfl)) rfl ?_;refine a_m rfl rfl ?_;refine any_val (rk_indexAddr (.of rfl) (.of rfl) ha2' (by omega) (by omega) norm1_) rfl ?_;refine any_val (rk_loadN (.of rfl) (Ats.base hcell2 rfl) rfl) rfl ?_;refine any_val (rk_neqA (.of rfl) (.of rfl) (okL_string (okL_string (okL_string (okL_int (okL_int (okL_int okL_nil)))))) rfl) rfl ?_)
    with_reducible refine any_end ?_
    (refine n_t ?_;refine c_b rfl (fun hcd=>?_) (fun hcd=>?_);refine s_r ?_;refine a_s rfl rfl ?_;refine n_t ?_;refine tr_ret ?_;refine tr_blk_ret ?_;refine tr_then_ret ?_;refine tr_then_ret ?_;refine tr_blk_ret ?_;refine tr_then_ret ?_;refine tr_retE rfl (ends1 rfl rfl) ?_;rotate_left;refine tr_skip ?_;refine tr_blk_normal ?_;refine tr_then ?_;refine tr_region ?_;refine m_v rfl rfl ?_;refine tr_val (rk_add (.of rfl) (.of rfl) (ini (by omega))) rfl ?_;refine a_s rfl rfl ?_;refine n_t ?_;rotate_right)
    · have hne:¬ l1 = l2:=by
        intro e
        subst e
        rw [← hx1] at hy1
        cases hy1
        simp at hcd
      rw [decide_eq_false hne]
    · have heq:l1[k]? = l2[k]?:=by
        rw [List.getElem?_eq_getElem hlt,List.getElem?_eq_getElem hlt2,← hx1,← hy1]
        simp at hcd
        simp [hcd]
      apply tr_next (k + 1) ⟨by omega,fun i hi=>by
        by_cases e:i = k
        · rw [e];exact heq
        · exact hf i (by omega)⟩ (by omega)
      case hs1=>exact .cons rfl (.cons rfl (.cons rfl .nil))
      case ht=>(try simp only [List.take_zero,List.map_nil,List.nil_append]);exact .cons .here (.cons .here .nil)
  · obtain rfl:k = l1.length:=by omega
    (refine tr_seq ?_;refine s_r ?_;refine m_v rfl rfl ?_;refine f_a rfl rfl norm0_ ?_;refine tr_val (rk_load1 (.of rfl) (At.lit (.there .here) rfl)) rfl ?_;refine tr_val (rk_len_slice (.of rfl)) rfl ?_;refine tr_val (rk_lss (.of rfl) (.of rfl)) rfl ?_;refine n_t ?_;refine c_d rfl (fun _=>by omega) (fun hcd=>?_);refine x_t ?_;refine tr_then_exit ?_;refine tr_blk_exit ?_;refine tr_then ?_;refine s_r ?_;refine a_s rfl rfl ?_;refine n_t ?_;refine tr_ret ?_;refine tr_retE rfl (ends1 rfl rfl) ?_)
    have:l1 = l2:=List.ext_getElem? fun i=>by
      by_cases hi:i < l1.length
      · exact hf i hi
      · rw [List.getElem?_eq_none (by omega),List.getElem?_eq_none (by omega)]
    rw [decide_eq_true this]
end Go.Proofs.A1
namespace Go.Proofs.A1
open Go Go.SL
end Go.Proofs.A1
namespace Go.Proofs.A1
open Go Go.SL
end Go.Proofs.A1
namespace Go.Proofs.A1
open Go Go.SL
section
variable {es:List En} {b:Br} {gap:Int} {ol:List Int}
end
end Go.Proofs.A1
namespace Go.Proofs.A1
open Go Go.SL
end Go.Proofs.A1
namespace Go.Proofs.A1
open Go Go.SL
theorem itoaB_nat (m:Nat):itoaB (m:Int) = bsL (Lib.decDigits m):=by
  unfold itoaB;rw [Lib.itoa_nonneg];rfl
theorem decDigits_len (m:Nat):∀ k,m < 10 ^ k → 0 < k → (Lib.decDigits m).length ≤ k:=by
  intro k
  induction k generalizing m with
  | zero=>intro _ h;exact absurd h (Nat.lt_irrefl _)
  | succ k ih =>
    intro h _
    rw [Lib.decDigits]
    split
    · simp
    · rename_i hm
      have hk:0 < k:=by
        rcases Nat.eq_zero_or_pos k with e | e
        · subst e;simp at h;omega
        · exact e
      have:=ih (m / 10) (by rw [Nat.pow_succ] at h;omega) hk
      simp only [List.length_append,List.length_singleton];omega
theorem text_q (m:Nat) (hm:(m:Int) ≤ 9223372036854775807) (w:World):GivesV Tryz.prog 161 [.int .i64 (m:Int)] w (.string (itoaB (m:Int))):=by
  induction m using Nat.strongRecOn generalizing w with
  | ind m ih=>
  have hw:(m:Int) < 10 → IntKind.u8.wrap (48 + (m:Int)) = 48 + (m:Int):=fun h=>u8w (by omega)
  have hw2:IntKind.u8.wrap (48 + (m:Int) % 10) = 48 + (m:Int) % 10:=u8w (by omega)
  refine givesV_of_tr Tryz.func161 rfl rfl ?_
  (refine s_r ?_;refine a_s rfl rfl ?_;refine n_t ?_;refine tr_seq ?_;refine s_r ?_;refine m_v rfl rfl ?_;refine tr_val (rk_lss (.of rfl) (.of rfl)) rfl ?_;refine n_t ?_;refine c_d rfl (fun _=>by omega) (fun hcd=>?_);refine s_t ?_;refine tr_seq ?_;refine s_r ?_;refine m_v rfl rfl ?_;refine tr_val (rk_lss (.of rfl) (.of rfl)) rfl ?_;refine n_t ?_;refine c_d rfl (fun hcd=>?_) (fun hcd=>?_);refine s_r ?_;refine m_v rfl rfl ?_;refine tr_val (rk_add (.of rfl) (.of rfl) (ini (by omega))) rfl ?_;refine tr_val (rk_conv (.of rfl)) rfl ?_;refine tr_new (rk_sliceLit (.cons (.of rfl) .nil) rfl rfl rfl rfl) rfl (fun _ _=>?_);refine tr_val (rk_convBS (.of rfl) (At.lit .here rfl)) rfl ?_;refine a_s rfl rfl ?_;refine n_t ?_;refine r_t ?_;refine tr_retE rfl (ends1 rfl rfl) ?_;rotate_left;refine s_t ?_;refine tr_seq ?_;rotate_right)
  · have hlt:m < 10:=by omega
    rw [itoaB_nat,Lib.decDigits,dif_pos hlt,hw hcd]
    rw [show (48 + (m:Int)).toNat = 48 + m by omega];rfl
  have hge:¬ m < 10:=by omega
  have ih':∀ w,GivesV Tryz.prog 161 [.int .i64 ((m:Int) / 10)] w (.string (itoaB ((m / 10:Nat):Int))):=fun w=>by
    have:=ih (m / 10) (by omega) (by omega) w
    rwa [Int.natCast_ediv] at this
  have hsz:(itoaB ((m / 10:Nat):Int)).size ≤ 100:=by
    rw [itoaB_nat,bsL_size]
    exact Nat.le_trans (decDigits_len _ 20 (by omega) (by decide)) (by decide)
  with_reducible refine tr_drawM 11 (by kernel_rfl) ?_
  (refine am_val (fun β=>(rk_move (.of rfl))) indC rfl ?_;refine am_val (fun β=>(rk_quo (.of rfl) (.of rfl) (by omega) hm (by omega))) indC rfl ?_)
  dsimp only [Nat.zero_add,Nat.reduceAdd]
  with_reducible apply am_callV (B:=[]) (F:=fun _=>.string (itoaB ((m / 10:Nat):Int))) (args:=fun _=>[.int .i64 ((m:Int) / 10)])
  case hB=>rfl
  case hr=>exact fun β=>rk_call (.of rfl) (.cons (.of rfl) .nil) inferInstance rfl
  case hi=>exact indC
  case hd=>rfl
  case hc=>exact fun β w' hb=>ih' w'
  (refine am_val (fun β=>(rk_move (.of rfl))) indC rfl ?_;refine am_val (fun β=>(rk_rem (.of rfl) (.of rfl) (by omega) (by omega))) indC rfl ?_;refine am_val (fun β=>(rk_add (.of rfl) (.of rfl) (ini (by omega)))) indC rfl ?_)
  dsimp only [Nat.reduceAdd]
  refine am_val (F:=fun _=>.int .u8 (IntKind.u8.wrap (48 + (m:Int) % 10))) (fun β=>rk_conv (.of rfl)) indC rfl ?_
  refine am_new (fun β=>(rk_sliceLit (.cons (.of rfl) .nil) rfl rfl rfl rfl)) (fun _ _ _=>rfl) rfl ?_
  refine am_valR (F:=fun _=>.string ⟨#[UInt8.ofNat (IntKind.u8.wrap (48 + (m:Int) % 10)).toNat]⟩) 7 rfl rfl (fun β=>rk_convBS (e:=5) (.of rfl) (At.lit .here rfl)) indC rfl ?_
  refine am_val (F:=fun _=>.string (itoaB ((m / 10:Nat):Int)++⟨#[UInt8.ofNat (IntKind.u8.wrap (48 + (m:Int) % 10)).toNat]⟩)) (fun β=>rk_cat (.of rfl) (.of rfl) (by show (itoaB ((m / 10:Nat):Int)).size + 1 ≤ 9223372036854775807;omega)) indC rfl ?_
  refine am_val (fun β=>(rk_assign (.of rfl))) indC rfl ?_
  refine am_end fun β=>?_
  dsimp only [resAll,List.nil_append,List.cons_append,List.append_eq,Nat.reduceAdd]
  with_reducible refine left_done (by kernel_rfl) ?_
  (refine tr_then ?_;refine tr_ret ?_;refine tr_retE rfl (ends1 rfl rfl) ?_)
  rw [hw2,itoaB_nat,itoaB_nat,Lib.decDigits.eq_def m,dif_neg hge,← bsL_append]
  congr 1
theorem isD_dg (x:UInt8):isD (x.toNat:Nat) = isDg x:=by
  unfold isD isDg
  congr 1 <;> exact decide_eq_decide.2 (by omega)
theorem digB_take {s:ByteArray} {i:Nat} {x:UInt8} (h:(toL s).take (i + 1) = (toL s).take i++[x]):digB ((toL s).take (i + 1)) = (digB ((toL s).take i) && isDg x):=by
  unfold digB;rw [h,List.all_append];simp
theorem digB_bad {l:List UInt8} {i:Nat} {x:UInt8} (hx:l[i]? = some x) (h:isDg x = false):digB l = false:=by
  unfold digB
  rw [List.all_eq_false]
  exact ⟨x,List.mem_of_getElem? hx,by rw [h];decide⟩
theorem bt_hd {s:ByteArray} (h:0 < s.size):(((s.data.toList[0]?.getD 0).toNat:Nat):Int) = ((toL s).headD 0).toNat:=by
  have hl:0 < (toL s).length:=by rw [← size_toL];exact h
  unfold toL at hl ⊢
  cases e:s.data.toList with
  | nil=>rw [e] at hl;simp at hl
  | cons a b=>rfl
theorem dig_q (s:ByteArray) (w:World):GivesV Tryz.prog 162 [.string s] w (.tuple #[.int .i64 (if numB (toL s) then digV (toL s) else 0),.bool (numB (toL s))]):=by
  have hn:=numB_iff (l:=toL s)
  rw [← size_toL] at hn
  refine givesV_of_tr Tryz.func162 rfl rfl ?_
  (refine s_r ?_;refine a_s rfl rfl ?_;refine a_s rfl rfl ?_;refine n_t ?_;refine tr_seq ?_;refine s_r ?_;refine m_v rfl rfl ?_;refine tr_val (rk_len_string (.of rfl)) rfl ?_;refine tr_val (rk_eql (.of rfl) (.of rfl)) rfl ?_;refine m_v rfl rfl ?_;refine v_g rfl rfl rfl rfl ?_;refine tr_vG1 rfl rfl inferInstance (fun hg hgp=>(rk_len_string (.ofg hg rfl))) rfl ?_;refine tr_vG1 rfl rfl inferInstance (fun hg hgp=>(rk_gtr (.ofg hg rfl) (.of rfl))) rfl ?_;refine tr_val (rk_pick_or (.of rfl) rfl) rfl ?_;refine m_v rfl rfl ?_;refine v_g rfl rfl rfl rfl ?_;refine tr_vG1 rfl rfl inferInstance (fun hg hgp=>(rk_len_string (.ofg hg rfl))) rfl ?_;refine tr_vG1 rfl rfl inferInstance (fun hg hgp=>(rk_gtr (.ofg hg rfl) (.of rfl))) rfl ?_;refine tr_vG1 rfl rfl inferInstance (fun hg hgp=>(rk_move (.ofg hg rfl))) rfl ?_;refine tr_vG rfl rfl inferInstance (fun hg hgp=>(rk_move (.of rfl))) rfl ?_;refine tr_vG rfl rfl inferInstance (fun hg hgp=>(rk_indexS (.ofg hg rfl) (.of rfl) (by omega) (by omega))) rfl ?_;refine tr_vG rfl rfl inferInstance (fun hg hgp=>(rk_eql (.ofg hg rfl) (.of rfl))) rfl ?_;refine tr_vG1 rfl rfl inferInstance (fun hg hgp=>(rk_pick_and' hg (.ofg hg rfl) rfl)) rfl ?_;refine tr_val (rk_pick_or (.of rfl) rfl) rfl ?_;refine n_t ?_;refine c_b rfl (fun hcd=>?_) (fun hcd=>?_);refine s_r ?_;refine a_s rfl rfl ?_;refine a_s rfl rfl ?_;refine n_t ?_;refine r_t ?_;refine tr_retE rfl (ends2 rfl rfl rfl) ?_;rotate_left;refine s_t ?_;refine s_r ?_;refine a_s rfl rfl ?_;refine n_t ?_;refine tr_seq ?_;refine s_r ?_;refine a_s rfl rfl ?_;refine n_t ?_;refine tr_block ?_;rotate_right)
  · have hb:numB (toL s) = false:=by
      rw [← Bool.not_eq_true,hn]
      rintro ⟨a,b,c,d⟩
      have h0:s.size ≠ 0:=fun e=>a (List.length_eq_zero_iff.1 (by rw [← size_toL];exact e))
      have h1:=bt_hd (s:=s) (by omega)
      rcases d with d | d
      · omega
      · rw [show Int.toNat 0 = 0 from rfl,h1] at hcd
        have:((toL s).headD 0).toNat ≠ 48:=fun e=>d (UInt8.toNat.inj e)
        omega
    rw [hb];rfl
  have hz0:0 < s.size:=by omega
  have h1:=bt_hd (s:=s) hz0
  rw [show Int.toNat 0 = 0 from rfl,h1] at hcd
  have hn2:numB (toL s) = digB (toL s):=by
    rw [Bool.eq_iff_iff,hn]
    constructor
    · exact fun h=>h.2.1
    · intro h
      refine ⟨fun e=>?_,h,by omega,?_⟩
      · rw [size_toL,e] at hz0;simp at hz0
      · by_cases e:s.size = 1
        · exact .inl e
        · refine .inr fun e2=>?_
          rw [e2] at hcd
          have:(48:UInt8).toNat = 48:=rfl
          omega
  rw [hn2]
  have h9:s.size ≤ 9:=by omega
  clear hcd
  refine tr_for (ι:=Nat) (fun i=>i ≤ s.size ∧ digB ((toL s).take i) = true) (fun i=>[(5,.int .i64 (i:Int)),(4,.int .i64 (digV ((toL s).take i))),(0,.string s)]) (fun _=>[]) (fun i=>s.size - i) ?_ ?_
  · apply tr_start 0 ⟨Nat.zero_le _,rfl⟩
    case hs1=>exact .cons rfl (.cons rfl (.cons rfl .nil))
    case ht=>exact .nil
  rintro i ⟨hi,hd⟩
  by_cases hlt:i < s.size
  · obtain ⟨x,r,hx1,hx2,hx3⟩:=toL_split hlt
    have hb0:=bt_at (i:=i) hx1 (by rw [List.length_take,← size_toL];omega)
    have hdt:=digB_take hx2
    have hv9:=digV_9 hd (by rw [List.length_take,← size_toL];omega)
    rw [hd,Bool.true_and] at hdt
    (refine tr_seq ?_;refine s_r ?_;refine m_v rfl rfl ?_;refine m_v rfl rfl ?_;refine tr_val (rk_len_string (.of rfl)) rfl ?_;refine tr_val (rk_lss (.of rfl) (.of rfl)) rfl ?_;refine n_t ?_;refine c_d rfl (fun hcd=>?_) (fun _=>by omega);refine s_t ?_;refine tr_seq ?_;refine tr_block ?_;refine tr_seq ?_;refine s_r ?_;refine m_v rfl rfl ?_;refine m_v rfl rfl ?_;refine tr_val (rk_indexS (.of rfl) (.of rfl) (by omega) hcd) rfl ?_)
    rw [Int.toNat_natCast,hb0]
    with_reducible apply tr_callV
    case hr=>exact rk_call (.of rfl) (.cons (.of rfl) .nil) inferInstance normc_
    case hd=>rfl
    case hc=>
      intro w' hm'
      exact isD_q _ w'
    rw [isD_dg]
    cases hdx:isDg x with
    | false =>
      rw [digB_bad hx3 hdx]
      (refine tr_val (rk_not (.of rfl)) rfl ?_;refine n_t ?_;refine tr_cond_t (.of rfl) ?_;refine s_r ?_;refine a_s rfl rfl ?_;refine a_s rfl rfl ?_;refine n_t ?_;refine r_t ?_;refine tr_blk_ret ?_;refine tr_then_ret ?_;refine tr_then_ret ?_;refine tr_blk_ret ?_;refine tr_then_ret ?_;refine tr_retE rfl (ends2 rfl rfl rfl) ?_)
      rfl
    | true =>
      rw [hdx] at hdt
      have hdx':=hdx
      unfold isDg at hdx'
      rw [Bool.and_eq_true,decide_eq_true_eq,decide_eq_true_eq] at hdx'
      (refine tr_val (rk_not (.of rfl)) rfl ?_;refine n_t ?_;refine tr_cond_f (.of rfl) ?_;refine s_t ?_;refine tr_region ?_;refine m_v rfl rfl ?_;refine tr_val (rk_mul (.of rfl) (.of rfl) (ini (by omega))) rfl ?_;refine m_v rfl rfl ?_;refine m_v rfl rfl ?_;refine tr_val (rk_indexS (.of rfl) (.of rfl) (by omega) hcd) rfl ?_)
      rw [Int.toNat_natCast,hb0]
      refine tr_val (rk_subw (.of rfl) (.of rfl)) rfl ?_
      refine tr_val (rk_conv (.of rfl)) rfl ?_
      rw [u8w (x:=(x.toNat:Int) - 48) (by omega),i64w (x:=(x.toNat:Int) - 48) (by omega)]
      (refine tr_val (rk_add (.of rfl) (.of rfl) (ini (by omega))) rfl ?_;refine a_s rfl rfl ?_;refine tr_nil ?_;refine tr_blk_normal ?_;refine tr_then ?_;refine tr_region ?_;refine m_v rfl rfl ?_;refine tr_val (rk_add (.of rfl) (.of rfl) (ini (by omega))) rfl ?_;refine a_s rfl rfl ?_;refine n_t ?_)
      rw [← digV_snoc,← hx2]
      apply tr_next (i + 1) ⟨hlt,hdt⟩ (by show s.size - (i + 1) < s.size - i;omega)
      case hs1=>exact .cons rfl (.cons rfl (.cons rfl .nil))
      case ht=>exact .nil
  · obtain rfl:i = s.size:=by omega
    rw [List.take_of_length_le (by rw [← size_toL];exact Nat.le_refl _)] at hd
    rw [List.take_of_length_le (by rw [← size_toL];exact Nat.le_refl _),hd]
    (refine tr_seq ?_;refine s_r ?_;refine m_v rfl rfl ?_;refine m_v rfl rfl ?_;refine tr_val (rk_len_string (.of rfl)) rfl ?_;refine tr_val (rk_lss (.of rfl) (.of rfl)) rfl ?_;refine n_t ?_;refine c_d rfl (fun _=>by omega) (fun hcd=>?_);refine x_t ?_;refine tr_then_exit ?_;refine tr_blk_exit ?_;refine tr_then ?_;refine s_r ?_;refine m_v rfl rfl ?_;refine a_s rfl rfl ?_;refine a_s rfl rfl ?_;refine n_t ?_;refine tr_ret ?_;refine tr_retE rfl (ends2 rfl rfl rfl) ?_)
    rfl
end Go.Proofs.A1
namespace Go.Proofs
open Go.Shelf
def Tryz.lays137_ren:Go.Shelf.Ren:=⟨fun | 137=>197 | 217=>216 | 266=>231 | n=>n,fun | 9=>9 | 5=>5 | 3=>3 | n=>n,fun | n=>n⟩
theorem Tryz.lays137:Go.Proofs.Lays.n137 Tryz.prog Tryz.lays137_ren:={
  mixed:=by kernel_rfl
  f137:=Tryz.func197.trans (congrArg some (by kernel_rfl))
  f217:=Tryz.func216.trans (congrArg some (by kernel_rfl))
  f266:=Tryz.func231.trans (congrArg some (by kernel_rfl))
  t3:=Tryz.underlying3
  a3:=Tryz.isAgg3
  z3:=Tryz.sizeOf3
  v3:=Tryz.zeroValue3
  t5:=Tryz.underlying5
  a5:=Tryz.isAgg5
  z5:=Tryz.sizeOf5
  v5:=Tryz.zeroValue5
  t9:=Tryz.underlying9
  a9:=Tryz.isAgg9
  z9:=Tryz.sizeOf9
  v9:=Tryz.zeroValue9 }
open Go.RowKit in
theorem Tryz.strings_IndexByte (s:ByteArray) (c:Int) (w:World) :
    Calls Tryz.prog 197 #[.string s,.int .u8 c] w fun e w'=>e = .returned (.int .i64 (Lib.indexByte s.data.toList c.toNat.toUInt8)) ∧ w' = w:=Any.strings_IndexByte Tryz.lays137 s c w
def Tryz.lays146_ren:Go.Shelf.Ren:=⟨fun | 146=>199 | 221=>218 | 268=>232 | 138=>233 | 143=>234 | 195=>251 | 197=>252 | 218=>253 | 219=>254 | 260=>264 | 217=>216 | 225=>265 | 224=>266 | 267=>267 | 266=>231 | 314=>271 | n=>n,fun | 9=>9 | 31=>167 | 3=>3 | 4=>4 | 0=>0 | 105=>342 | 21=>21 | 5=>5 | 46=>317 | 119=>356 | 139=>359 | 138=>358 | 146=>360 | 51=>334 | n=>n,fun | 1=>1 | 3=>3 | 4=>4 | n=>n⟩
theorem Tryz.lays146:Go.Proofs.Lays.n146 Tryz.prog Tryz.lays146_ren:={
  mixed:=by kernel_rfl
  f138:=Tryz.func233.trans (congrArg some (by kernel_rfl))
  f143:=Tryz.func234.trans (congrArg some (by kernel_rfl))
  f146:=Tryz.func199.trans (congrArg some (by kernel_rfl))
  f195:=Tryz.func251.trans (congrArg some (by kernel_rfl))
  f197:=Tryz.func252.trans (congrArg some (by kernel_rfl))
  f217:=Tryz.func216.trans (congrArg some (by kernel_rfl))
  f218:=Tryz.func253.trans (congrArg some (by kernel_rfl))
  f219:=Tryz.func254.trans (congrArg some (by kernel_rfl))
  f221:=Tryz.func218.trans (congrArg some (by kernel_rfl))
  f224:=Tryz.func266.trans (congrArg some (by kernel_rfl))
  f225:=Tryz.func265.trans (congrArg some (by kernel_rfl))
  f260:=Tryz.func264.trans (congrArg some (by kernel_rfl))
  f266:=Tryz.func231.trans (congrArg some (by kernel_rfl))
  f267:=Tryz.func267.trans (congrArg some (by kernel_rfl))
  f268:=Tryz.func232.trans (congrArg some (by kernel_rfl))
  f314:=Tryz.func271.trans (congrArg some (by kernel_rfl))
  t0:=Tryz.underlying0
  a0:=Tryz.isAgg0
  z0:=Tryz.sizeOf0
  v0:=Tryz.zeroValue0
  t3:=Tryz.underlying3
  a3:=Tryz.isAgg3
  z3:=Tryz.sizeOf3
  v3:=Tryz.zeroValue3
  t4:=Tryz.underlying4
  a4:=Tryz.isAgg4
  z4:=Tryz.sizeOf4
  v4:=Tryz.zeroValue4
  t5:=Tryz.underlying5
  a5:=Tryz.isAgg5
  z5:=Tryz.sizeOf5
  v5:=Tryz.zeroValue5
  t9:=Tryz.underlying9
  a9:=Tryz.isAgg9
  z9:=Tryz.sizeOf9
  v9:=Tryz.zeroValue9
  t21:=Tryz.underlying21
  a21:=Tryz.isAgg21
  z21:=Tryz.sizeOf21
  v21:=Tryz.zeroValue21
  t31:=Tryz.underlying167
  a31:=Tryz.isAgg167
  z31:=Tryz.sizeOf167
  v31:=Tryz.zeroValue167
  t46:=Tryz.underlying317
  a46:=Tryz.isAgg317
  z46:=Tryz.sizeOf317
  v46:=Tryz.zeroValue317
  t51:=Tryz.underlying334
  a51:=Tryz.isAgg334
  z51:=Tryz.sizeOf334
  v51:=Tryz.zeroValue334
  t105:=Tryz.underlying342
  a105:=Tryz.isAgg342
  z105:=Tryz.sizeOf342
  v105:=Tryz.zeroValue342
  t119:=Tryz.underlying356
  a119:=Tryz.isAgg356
  z119:=Tryz.sizeOf356
  t138:=Tryz.underlying358
  a138:=Tryz.isAgg358
  z138:=Tryz.sizeOf358
  v138:=Tryz.zeroValue358
  t139:=Tryz.underlying359
  a139:=Tryz.isAgg359
  z139:=Tryz.sizeOf359
  v139:=Tryz.zeroValue359
  t146:=Tryz.underlying360
  a146:=Tryz.isAgg360
  z146:=Tryz.sizeOf360
  v146:=Tryz.zeroValue360
  g1:=by kernel_rfl
  g3:=by kernel_rfl
  g4:=by kernel_rfl }
open Go.RowKit Go.Lib in
theorem Tryz.strings_Split (s sep:ByteArray) (m:Int) (w:World) (hs:s.size < 4294967281) (hm:w.cell? ⟨1,0,none⟩ = some (.int .i64 m)) (h1:1 ≤ sep.size) :
    Calls Tryz.prog 199 #[.string s,.string sep] w fun e w'=>
      e = .returned (.slice (some ⟨w.heap.size,0,none⟩) (Lib.countB s sep + 1) (Lib.countB s sep + 1)) ∧ w' = w.alloc (.cells ((Lib.splitB sep 0 (Lib.countB s sep) s).map Value.string).toArray 9):=Any.strings_Split Tryz.lays146 (by kernel_rfl) s sep m w hs hm h1
end Go.Proofs
