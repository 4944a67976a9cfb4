/- Parts of the proof: GkRegM GkRegN GkStr GkBits GkArr. -/
import Derived.Test.YtpamkookgkffgaaGreatDoorTM06
import Derived.Test.YtpamkookgkffgaaGreatDoorTM05
import Derived.Test.YtpamkookgkffgaaGreatDoorTM04
import Derived.Laws.Strings
import Derived.Laws.BytesString
import Derived.Test.YtpamkookgkffgaaGreatDoorTM01
import Derived.Laws.Entries
set_option linter.unusedSectionVars false
set_option linter.unusedVariables false
set_option linter.unusedSimpArgs false
namespace Go.SL
open Go
def regOkP (l:List Oper) (m p:Nat):Bool:=
  l.all opOk && acyc l 0 && pairsOk l.toArray (l.take m) 0 && (List.range' m (l.length - m)).all (fun k=>(List.range m).all fun i=>Nat.beq i p || ((masks l []).getD k 0).testBit i) && Nat.ble m l.length
def regOkL (l:List Oper) (m:Nat):Bool:=regOkP l m m
structure ChkL (l:List Oper) (m p:Nat):Prop where
  op:∀ o ∈ l,opOk o = true
  ac:acyc l 0 = true
  pairs:pairsOk l.toArray (l.take m) 0 = true
  tail:∀ k,m ≤ k → k < l.length → ∀ i,i < m → i ≠ p → ((masks l []).getD k 0).testBit i = true
  le:m ≤ l.length
theorem regOkP_spec {l:List Oper} {m p:Nat} (h:regOkP l m p = true):ChkL l m p:=by
  simp only [regOkP,Bool.and_eq_true,List.all_eq_true] at h
  obtain ⟨⟨⟨⟨h1,h2⟩,h3⟩,h5⟩,h6⟩:=h
  refine ⟨h1,h2,h3,fun k hk hlt i hi hne=>?_,by simpa using h6⟩
  have:=h5 k (List.mem_range'_1.2 ⟨hk,by omega⟩) i (List.mem_range.2 hi)
  rw [Bool.or_eq_true] at this
  exact this.resolve_left (by simpa using hne)
theorem pair_atL {l:List Oper} {m p:Nat} (hc:ChkL l m p) {i j:Nat} {x y:Oper} (hij:i < j) (hj:j < m) (hx:l[i]? = some x) (hy:l[j]? = some y):pairOk l.toArray x y i = true:=by
  have:=pairsOk_spec hc.pairs (i:=i) (j:=j) hij (by rw [List.getElem?_take,if_pos (by omega)];exact hx) (by rw [List.getElem?_take,if_pos hj];exact hy)
  simpa using this
theorem ready_maskL {l:List Oper} {m p:Nat} (hc:ChkL l m p) {listed:Array Bool} (hsz:listed.size = l.length) (hdc:DC l (Ls listed)) {i:Nat} (hi:i ∈ Region.ready .any l.toArray listed) (hm:m ≤ i):∀ j,j < m → j ≠ p → Ls listed j:=by
  intro j hj hjp
  obtain ⟨o,ho,hn,hd⟩:=(mem_ready' hsz).1 hi
  have hlt:i < l.length:=(List.getElem?_eq_some_iff.1 ho).1
  have hdc':DC l (fun k=>k = i ∨ Ls listed k):=by
    intro k ok hk hL e he hb
    rcases hL with e' | hL
    · subst e'
      rw [ho] at hk;cases hk
      exact .inr (hd e he hb)
    · exact .inr (hdc k ok hk hL e he hb)
  rcases masks_sound hdc' hc.ac i hlt (.inl rfl) j (hc.tail i hm hlt j hj hjp) with h | h
  · omega
  · exact h
structure StepP where
  F:(Nat → Value) → Value
  A:(Nat → Value) → List Asn
def upd (β:Nat → Value) (i:Nat) (x:Value):Nat → Value:=fun k=>if k = i then x else β k
theorem upd_self (β:Nat → Value) (i:Nat):upd β i (β i) = β:=by
  funext k;unfold upd;split
  · rename_i h;rw [h]
  · rfl
theorem upd_at (β:Nat → Value) (i:Nat) (x:Value):upd β i x i = x:=by unfold upd;rw [if_pos rfl]
theorem upd_ne {β:Nat → Value} {i k:Nat} {x:Value} (h:k ≠ i):upd β i x k = β k:=by unfold upd;rw [if_neg h]
def ancB (l:List Oper) (i k:Nat):Bool:=Nat.beq i k || ((masks l []).getD i 0).testBit k
def resF (β:Nat → Value) (lst:Nat → Bool):List StepP → Nat → List Asn
  | [],_=>[]
  | s :: S,i=>(if lst i then s.A β else [])++resF β lst S (i + 1)
theorem resF_same {β β':Nat → Value} {lst lst':Nat → Bool}:∀ {S:List StepP} {i:Nat},(∀ j s,S[j]? = some s → lst (i + j) = lst' (i + j) ∧ (lst (i + j) = true → s.A β = s.A β')) → resF β lst S i = resF β' lst' S i
  | [],_,_=>rfl
  | s :: S, i, h => by
    have h0:=h 0 s rfl
    have ih:resF β lst S (i + 1) = resF β' lst' S (i + 1):=resF_same fun j s' hj=>by have:=h (j + 1) s' (by simpa using hj);rwa [show i + (j + 1) = i + 1 + j from by omega] at this
    simp only [Nat.add_zero] at h0
    unfold resF
    rw [ih,← h0.1]
    by_cases hl:lst i = true
    · rw [if_pos hl,if_pos hl,h0.2 hl]
    · rw [if_neg hl,if_neg hl]
theorem resF_add {β:Nat → Value} {lst lst':Nat → Bool} {k:Nat} {s:StepP}:∀ {S:List StepP} {i:Nat},S[k]? = some s → lst (i + k) = false → lst' (i + k) = true → (∀ j,j ≠ i + k → lst' j = lst j) →
    (s.A β++resF β lst S i).Perm (resF β lst' S i)
  | [],_,h,_,_,_=>by simp at h
  | s0 :: S, i, h, h1, h2, h3 => by
    cases k with
    | zero =>
      simp at h
      subst h
      have e:resF β lst S (i + 1) = resF β lst' S (i + 1):=resF_same fun j s' hj=>⟨(h3 (i + 1 + j) (by omega)).symm,fun _=>rfl⟩
      simp only [Nat.add_zero] at h1 h2
      unfold resF
      rw [if_neg (by simp [h1]),if_pos h2,e];simp
    | succ k =>
      have ih:(s.A β++resF β lst S (i + 1)).Perm (resF β lst' S (i + 1)):=by
        refine resF_add (k:=k) (by simpa using h) ?_ ?_ ?_
        all_goals rw [show i + 1 + k = i + (k + 1) from by omega];assumption
      unfold resF
      rw [h3 i (by omega)]
      refine List.Perm.trans ?_ (ih.append_left _)
      rw [← List.append_assoc,← List.append_assoc]
      exact List.perm_append_comm.append_right _
theorem resF_sub {β:Nat → Value} {lst:Nat → Bool} {s:StepP}:∀ {S:List StepP} {i j:Nat},S[j]? = some s → lst (i + j) = true → (s.A β).Sublist (resF β lst S i)
  | [],_,j,h,_=>by simp at h
  | s0 :: S, i, 0, h, h1 => by
    simp at h
    subst h
    unfold resF
    rw [Nat.add_zero] at h1
    rw [if_pos h1]
    exact List.sublist_append_left _ _
  | s0 :: S, i, j + 1, h, h1 => by
    unfold resF
    exact (resF_sub (S:=S) (i:=i + 1) (j:=j) (by simpa using h) (by rwa [show i + 1 + j = i + (j + 1) from by omega])).trans (List.sublist_append_right _ _)
theorem Sats.sublist {h:Nat → Option Obj} {l1 l2:List Asn} (hs:l1.Sublist l2):∀ {fp:List Nat},Sats h l2 fp → ∃ fp':List Nat,Sats h l1 fp' ∧ fp'.Sublist fp:=by
  induction hs with
  | slnil=>intro fp hf;exact ⟨fp,hf,List.Sublist.refl _⟩
  | cons A _ ih =>
    rintro fp ⟨f1,f2,rfl,_,h2⟩
    obtain ⟨g,hg,hsub⟩:=ih h2
    exact ⟨g,hg,hsub.trans (List.sublist_append_right _ _)⟩
  | cons_cons A _ ih =>
    rintro fp ⟨f1,f2,rfl,h1,h2⟩
    obtain ⟨g,hg,hsub⟩:=ih h2
    exact ⟨f1++g,⟨f1,g,rfl,h1,hg⟩,(List.Sublist.refl f1).append hsub⟩
theorem Mem.sublist {c:Cx} {l1 l2:List Asn} {w:World} (h:Mem c l2 w) (hs:l1.Sublist l2):Mem c l1 w:=by
  obtain ⟨k,fp,hn,hsat,hb⟩:=h
  obtain ⟨g,hg,hsub⟩:=hsat.sublist hs
  exact ⟨k,g,hn.sublist hsub,hg,fun b hb'=>hb b (hsub.subset hb')⟩
def MRun (P:Program) (o:Oper) (a:Act) (w:World) (K:Value → World → Prop):Prop:=
  match (execOp a.eval o).run P w with
  | .ok (.value v) w'=>K v w'
  | .ok (.enter f args) w'=>w' = w ∧ Calls P f args w (fun e w''=>∃ v,e = .returned v ∧ K v w'')
  | _=>False
section
variable {P:Program} {c:Cx} {D:List Nat} {sl:Slots} {hs:List Asn} {Q:Exit → Act → World → Prop} {l:List Oper} {m:Nat}
def Borrow (c:Cx) (hs:List Asn) (S:List StepP) (B:List Nat) (β:Nat → Value) (w:World):Prop:=∀ A:List Asn,(A = [] ∨ ∃ j,j ∈ B ∧ ∃ s,S[j]? = some s ∧ A = s.A β) → Mem c (A++hs) w
theorem Borrow.mem {S:List StepP} {B:List Nat} {β:Nat → Value} {w:World} (h:Borrow c hs S B β w):Mem c hs w:=h [] (.inl rfl)
theorem Borrow.at {S:List StepP} {B:List Nat} {β:Nat → Value} {w:World} (h:Borrow c hs S B β w) (j:Nat) {s:StepP} (hj:j ∈ B) (hs':S[j]? = some s):Mem c (s.A β++hs) w:=h _ (.inr ⟨j,hj,s,hs',rfl⟩)
def MOut (i:Nat) (s:StepP) (β:Nat → Value) (w:World) (v:Value) (w':World):Prop:=∃ x,v = s.F (upd β i x) ∧ Keeps [] w w' ∧ ∃ fp:List Nat,fp.Nodup ∧ Sats (hp w') (s.A (upd β i x)) fp ∧ ∀ b ∈ fp,w.heap.size ≤ b
def Indep {α:Type} (l:List Oper) (i:Nat) (F:(Nat → Value) → α):Prop:=∀ β β',(∀ k,ancB l i k = true → β k = β' k) → F β = F β'
structure StepOk (P:Program) (c:Cx) (hs:List Asn) (l:List Oper) (i:Nat) (o:Oper) (SL:(Nat → Value) → Slots) (S:List StepP) (s:StepP):Prop where
  indF:Indep l i s.F
  indA:Indep l i s.A
  run:∃ B:List Nat,(∀ j ∈ B,waitsOn o j = true) ∧ ∀ β a w,SlotsOk (SL β) a → Borrow c hs S B β w → if Region.wanted o (yielded l.toArray a.tmps) = true then MRun P o a w (MOut i s β w) else MOut i s β w undef w
inductive PlanM (P:Program) (c:Cx) (hs:List Asn) (l:List Oper):Nat → List Oper → ((Nat → Value) → Slots) → List StepP → List StepP → ((Nat → Value) → Slots) → Prop
  | nil {i:Nat} {SL:(Nat → Value) → Slots} {S:List StepP}:PlanM P c hs l i [] SL S S SL
  | step {i d:Nat} {o:Oper} {rest:List Oper} {SL SL':(Nat → Value) → Slots} {S S':List StepP} {s:StepP} (hd:o.dst = some d) (hdn:d < c.nt) (h:StepOk P c hs l i o SL S s)
      (t:PlanM P c hs l (i + 1) rest (fun β=>(d,s.F β) :: SL β) (S++[s]) S' SL'):PlanM P c hs l i (o :: rest) SL S S' SL'
def PreOk (sl:Slots) (pre:List Oper) (SL:(Nat → Value) → Slots) (S:List StepP):Prop:=
  ∀ β t v,sget (SL β) t = some v → (∃ (j:Nat) (oj:Oper) (s:StepP),pre[j]? = some oj ∧ oj.dst = some t ∧ S[j]? = some s ∧ v = s.F β) ∨ ((∀ oj ∈ pre,oj.dst ≠ some t) ∧ sget sl t = some v)
theorem PreOk.step {pre:List Oper} {SL:(Nat → Value) → Slots} {S:List StepP} (h:PreOk sl pre SL S) (hl:S.length = pre.length) {o:Oper} {d:Nat} {s:StepP} (hd:o.dst = some d):PreOk sl (pre++[o]) (fun β=>(d,s.F β) :: SL β) (S++[s]):=by
  intro β t v hv
  by_cases e:d = t
  · subst e
    rw [sget_cons_eq] at hv
    cases hv
    exact .inl ⟨pre.length,o,s,by simp,hd,by rw [← hl];simp,rfl⟩
  · rw [sget_cons_ne e] at hv
    rcases h β t v hv with ⟨j,oj,s',h1,h2,h3,h4⟩ | ⟨h1,h2⟩
    · refine .inl ⟨j,oj,s',?_,h2,?_,h4⟩
      · rw [List.getElem?_append_left (List.getElem?_eq_some_iff.1 h1).1];exact h1
      · rw [List.getElem?_append_left (List.getElem?_eq_some_iff.1 h3).1];exact h3
    · refine .inr ⟨fun oj hoj=>?_,h2⟩
      rcases List.mem_append.1 hoj with hoj | hoj
      · exact h1 oj hoj
      · rw [List.mem_singleton.1 hoj,hd];simp [e]
theorem PlanM.spec {i:Nat} {rest:List Oper} {SL SL':(Nat → Value) → Slots} {S S':List StepP} (h:PlanM P c hs l i rest SL S S' SL'):∀ pre:List Oper,pre.length = i → S.length = i → PreOk sl pre SL S →
    S'.length = i + rest.length ∧ S <+: S' ∧ PreOk sl (pre++rest) SL' S' ∧ ∀ k o,i ≤ k → (pre++rest)[k]? = some o → ∃ d SLk s,o.dst = some d ∧ d < c.nt ∧ S'[k]? = some s ∧ PreOk sl ((pre++rest).take k) SLk (S'.take k) ∧ StepOk P c hs l k o SLk (S'.take k) s:=by
  induction h with
  | @nil i SL S =>
    intro pre hp hS hpre
    refine ⟨by simpa using hS,List.prefix_rfl,by simpa using hpre,fun k o hk ho=>?_⟩
    have:=(List.getElem?_eq_some_iff.1 ho).1
    simp at this;omega
  | @step i d o rest SL SL' S S' s hd hdn hst t ih =>
    intro pre hp hS hpre
    obtain ⟨h1,h2,h3,h4⟩:=ih (pre++[o]) (by simp [hp]) (by simp [hS]) (hpre.step (by omega) hd)
    rw [List.append_assoc,List.singleton_append] at h3 h4
    have hpx:S <+: S':=(List.prefix_append S [s]).trans h2
    have hSi:S'[i]? = some s:=by
      obtain ⟨r,rfl⟩:=h2
      rw [List.append_assoc,List.getElem?_append_right (by omega),hS];simp
    have hSt:S'.take i = S:=by
      obtain ⟨r,rfl⟩:=hpx
      rw [← hS];simp
    refine ⟨by rw [h1];simp;omega,hpx,h3,fun k ok hk ho=>?_⟩
    by_cases e:k = i
    · subst e
      have ho':ok = o:=by
        rw [List.getElem?_append_right (by omega),hp] at ho
        simpa using ho.symm
      subst ho'
      have htk:(pre++ok :: rest).take k = pre:=by rw [← hp];simp
      rw [htk,hSt]
      exact ⟨d,SL,s,hd,hdn,hSi,hpre,hst⟩
    · exact h4 k ok (by omega) ho
structure InvM (c:Cx) (D:List Nat) (hs:List Asn) (l:List Oper) (m:Nat) (S:List StepP) (a0:Act) (fuel:Nat) (listed:Array Bool) (a:Act) (w:World):Prop where
  sz:listed.size = l.length
  dc:DC l (Ls listed)
  hi:∀ k,m ≤ k → ¬ Ls listed k
  defers:a.defers = D.map mark
  size:a.tmps.size = c.nt
  old:∀ t,(∀ (j:Nat) (o:Oper),l[j]? = some o → Ls listed j → o.dst ≠ some t) → a.tmps[t]? = a0.tmps[t]?
  left:∃ U:List Nat,U.Nodup ∧ (∀ i,i ∈ U ↔ i < l.length ∧ ¬ Ls listed i) ∧ U.length = fuel
  own:∃ β:Nat → Value,Mem c (resF β (fun i=>listed.getD i false) S 0++(hs++mks D)) w ∧ ∀ (j:Nat) (o:Oper) (d:Nat) (s:StepP),l[j]? = some o → o.dst = some d → S[j]? = some s → Ls listed j → a.tmps[d]? = some (s.F β)
def Lend (n m:Nat):Array Bool:=(List.replicate m true++List.replicate (n - m) false).toArray
theorem ext_pure {P:Program} {dst:Option Tmp} {x:Operand} {k:Nat} {ty:TypeId} {pos:String} {af:Array Edge} {ρ:Operand → Value} {w:World} {K:Value → World → Prop}
    (h:match (execOp ρ ⟨dst,.extract x k,ty,pos,af,none⟩).run P w with
      | .ok (.value v) w'=>K v w'
      | .ok (.enter f args) w'=>w' = w ∧ Calls P f args w (fun e w''=>∃ v,e = .returned v ∧ K v w'')
      | _=>False):∃ v,K v w ∧ ∀ w2,(execOp ρ ⟨dst,.extract x k,ty,pos,af,none⟩).run P w2 = .ok (.value v) w2:=by
  simp only [execOp] at h ⊢
  generalize ρ x = u at h ⊢
  cases u with
  | tuple vs =>
    simp only [Instr.extract] at h ⊢
    cases hv:vs[k]? with
    | none=>simp [hv] at h
    | some v=>simp [hv] at h ⊢;exact h
  | _=>simp [Instr.extract] at h
def PureAt (l:List Oper) (p:Nat):Prop:=∃ d x k ty pos af,l[p]? = some ⟨some d,.extract x k,ty,pos,af,none⟩ ∧ Region.noSelect l.toArray = true ∧ Region.free .any l.toArray ((List.range l.length).map fun j=>((masks l []).getD p 0).testBit j).toArray p = true
theorem free_mono {ops:Array Oper} {l1 l2:Array Bool} {i:Nat} (h:Region.free .any ops l1 i = true) (hle:∀ j,j < ops.size → j ≠ i → l1.getD j true = true → l2.getD j true = true):Region.free .any ops l2 i = true:=by
  unfold Region.free at h ⊢
  cases hi:ops[i]? with
  | none=>rw [hi] at h;cases h
  | some oi =>
    rw [hi] at h
    simp only [List.all_eq_true,List.mem_range] at h ⊢
    intro j hj
    have h1:=h j hj
    simp only [Bool.or_eq_true] at h1 ⊢
    rcases h1 with (h1 | h1) | h1
    · exact .inl (.inl h1)
    · by_cases e:j = i
      · exact .inl (.inl (by simp [e]))
      · exact .inl (.inr (hle j hj e h1))
    · exact .inr h1
theorem ready_anc {l:List Oper} (hac:acyc l 0 = true) {listed:Array Bool} (hsz:listed.size = l.length) (hdc:DC l (Ls listed)) {i:Nat} (hi:i ∈ Region.ready .any l.toArray listed) {j:Nat} (hbit:((masks l []).getD i 0).testBit j = true):j = i ∨ Ls listed j:=by
  obtain ⟨o,ho,hn,hd⟩:=(mem_ready' hsz).1 hi
  have hlt:i < l.length:=(List.getElem?_eq_some_iff.1 ho).1
  have hdc':DC l (fun k=>k = i ∨ Ls listed k):=by
    intro k ok hk hL e he hb
    rcases hL with e' | hL
    · subst e'
      rw [ho] at hk;cases hk
      exact .inr (hd e he hb)
    · exact .inr (hdc k ok hk hL e he hb)
  exact masks_sound hdc' hac i hlt (.inl rfl) j hbit
theorem phaseM {p:Nat} (hc:ChkL l m p) (hpx:p < m → PureAt l p) (hQp:∀ c a w,¬ Q (.panic c) a w) {S:List StepP} {SL':(Nat → Value) → Slots} (hpM:PlanM P c hs l 0 (l.take m) (fun _=>sl) [] S SL') {a0:Act} (h0:SlotsOk sl a0) (hn0:a0.tmps.size = c.nt)
    (tail:∀ β a w,St c D (SL' β) (resF β (fun _=>true) S 0++hs) a w → wpAnyIn (FR none) 0 P .any l.toArray Q (l.length - m) (Lend l.length m) a w) :
    ∀ (fuel:Nat) (listed:Array Bool) (a:Act) (w:World),InvM c D hs l m S a0 fuel listed a w → wpAnyIn (FR none) 0 P .any l.toArray Q fuel listed a w:=by
  have hle:=hc.le
  have hp0:PreOk sl [] (fun _=>sl) []:=fun β t v hv=>.inr ⟨fun oj h=>(List.not_mem_nil h).elim,hv⟩
  obtain ⟨hSlen,_,hpre,hstep⟩:=hpM.spec (sl:=sl) [] rfl rfl hp0
  rw [List.nil_append] at hpre hstep
  rw [Nat.zero_add,List.length_take,Nat.min_eq_left hle] at hSlen
  have htake:∀ (j:Nat) (o:Oper),j < m → l[j]? = some o → (l.take m)[j]? = some o:=fun j o hj ho=>by rw [List.getElem?_take,if_pos hj];exact ho
  have htake':∀ (j:Nat) (o:Oper),(l.take m)[j]? = some o → j < m ∧ l[j]? = some o:=fun j o ho=>by
    rw [List.getElem?_take] at ho
    split at ho
    · exact ⟨by assumption,ho⟩
    · cases ho
  have hSget:∀ j,j < m → ∃ s,S[j]? = some s:=fun j hj=>⟨S[j]'(by omega),List.getElem?_eq_getElem (by omega)⟩
  have hfin:∀ fuel listed a w,InvM c D hs l m S a0 fuel listed a w → (∀ i,i < m → Ls listed i) → wpAnyIn (FR none) 0 P .any l.toArray Q fuel listed a w:=by
    intro fuel listed a w hI hall
    have hL:∀ i,i < l.length → (Ls listed i ↔ i < m):=fun i _=>⟨fun h=>Nat.lt_of_not_le fun hm=>hI.hi i hm h,hall i⟩
    obtain ⟨U,hU1,hU2,hU3⟩:=hI.left
    have hperm:U.Perm (List.range' m (l.length - m)):=by
      rw [List.perm_ext_iff_of_nodup hU1 (List.nodup_range')]
      intro i
      rw [hU2 i,List.mem_range'_1]
      constructor
      · rintro ⟨h1,h2⟩
        exact ⟨Nat.le_of_not_lt fun h=>h2 (hall i h),by omega⟩
      · rintro ⟨h1,h2⟩
        exact ⟨by omega,hI.hi i h1⟩
    have hlen:fuel = l.length - m:=by rw [← hU3,hperm.length_eq,List.length_range']
    have hlst:listed = Lend l.length m:=by
      have hsz2:(Lend l.length m).size = l.length:=by simp [Lend];omega
      apply Array.ext
      · rw [hI.sz,hsz2]
      · intro i h1 h2
        rw [hI.sz] at h1
        have h3:=hL i h1
        unfold Ls at h3
        rw [Array.getD_eq_getD_getElem?,Array.getElem?_eq_getElem (by rw [hI.sz];exact h1),Option.getD_some] at h3
        have h4:(Lend l.length m)[i] = decide (i < m):=by
          simp only [Lend,List.getElem_toArray]
          by_cases hi:i < m
          · rw [List.getElem_append_left (by simpa using hi)];simp [hi]
          · rw [List.getElem_append_right (by simpa using hi)];simp [hi]
        rw [h4]
        by_cases hi:i < m
        · rw [h3.2 hi];simp [hi]
        · have:¬ listed[i] = true:=fun h=>hi (h3.1 h)
          simp [hi,this]
    subst hlen
    rw [hlst]
    obtain ⟨β,hm,hval⟩:=hI.own
    have e:resF β (fun i=>listed.getD i false) S 0 = resF β (fun _=>true) S 0:=resF_same fun j s hj=>by
      have hjm:j < m:=by have:=(List.getElem?_eq_some_iff.1 hj).1;omega
      rw [Nat.zero_add]
      exact ⟨hall j hjm,fun _=>rfl⟩
    rw [e] at hm
    refine tail β a w ⟨by rw [List.append_assoc];exact hm,fun t v hv=>?_,hI.size,hI.defers⟩
    rcases hpre β t v hv with ⟨j,oj,s,h1,h2,h3,h4⟩ | ⟨h1,h2⟩
    · obtain ⟨hjm,hj'⟩:=htake' j oj h1
      rw [h4];exact hval j oj t s hj' h2 h3 (hall j hjm)
    · rw [hI.old t fun j oj hj hLj=>h1 oj (List.mem_of_getElem? (htake j oj (Nat.lt_of_not_le fun hm=>hI.hi j hm hLj) hj))]
      exact h0 t v h2
  intro fuel
  induction fuel with
  | zero =>
    intro listed a w hI
    obtain ⟨U,_,hU2,hU3⟩:=hI.left
    have hU:U = []:=List.length_eq_zero_iff.1 hU3
    refine hfin 0 listed a w hI fun i hi=>Classical.byContradiction fun hn=>?_
    have:=(hU2 i).2 ⟨by omega,hn⟩
    rw [hU] at this;cases this
  | succ fuel ih =>
    intro listed a w hI
    by_cases hall:∀ i,i < m → Ls listed i
    · exact hfin _ listed a w hI hall
    · have hex:∃ i,i < m ∧ ¬ Ls listed i:=Classical.byContradiction fun hh=>hall fun i hi=>Classical.byContradiction fun hn=>hh ⟨i,hi,hn⟩
      obtain ⟨i0,hi0,hn0'⟩:=hex
      have main:∀ i,i ∈ Region.ready .any l.toArray listed → i < m → wpOpIn (FR none) 0 P l.toArray Q i (wpAnyIn (FR none) 0 P .any l.toArray Q fuel (listed.setIfInBounds i true)) a w ∧ (i = p → wpAnyIn (FR none) 0 P .any l.toArray Q (fuel + 1) listed a w):=by
        intro i hi him
        obtain ⟨o,ho,hn,hdeps⟩:=(mem_ready' hI.sz).1 hi
        obtain ⟨d,SLk,s,hd,hdn,hSi,hprek,hok⟩:=hstep i o (Nat.zero_le _) (htake i o him ho)
        obtain ⟨indF,indA,B,hB,hrun⟩:=hok
        obtain ⟨β,hm,hval⟩:=hI.own
        have hwait:∀ (j:Nat),waitsOn o j = true → Ls listed j:=fun j hw=>by
          obtain ⟨e,he,hb,hon⟩:=waitsOn_spec hw
          rw [← hon];exact hdeps e he hb
        have hdist:∀ (j:Nat) (oj:Oper) (e:Nat),l[j]? = some oj → j < m → j ≠ i → oj.dst = some e → d ≠ e:=by
          intro j oj e hj hjm hne he
          rcases Nat.lt_or_ge j i with h | h
          · exact fun e'=>(pair_spec (pair_atL hc h him hj ho) he hd).1 e'.symm
          · exact (pair_spec (pair_atL hc (show i < j by omega) hjm ho hj) hd he).1
        have hil:i < listed.size:=by rw [hI.sz];omega
        have hoo:opOk o = true:=hc.op o (List.mem_of_getElem? ho)
        -- the slots that the operation looks at
        have hT:∀ t ∈ o.looksAt l.toArray,∀ v,sget (SLk β) t = some v → a.tmps[t]? = some v:=by
          intro t ht v hv
          rcases hprek β t v hv with ⟨j,oj,sj,h1,h2,h3,h4⟩ | ⟨h1,h2⟩
          · have hji:j < i:=by have:=(List.getElem?_eq_some_iff.1 h1).1;rw [List.length_take] at this;omega
            rw [List.getElem?_take,if_pos hji] at h1 h3
            obtain ⟨hjm,hj'⟩:=htake' j oj h1
            have hLj:=hwait j ((pair_spec (pair_atL hc hji him hj' ho) h2 hd).2 (.inl ht))
            rw [h4];exact hval j oj t sj hj' h2 h3 hLj
          · rw [hI.old t fun j oj hj hLj hdj=>?_]
            · exact h0 t v h2
            · have hjm:j < m:=Nat.lt_of_not_le fun hm=>hI.hi j hm hLj
              rcases Nat.lt_trichotomy j i with h | h | h
              · exact h1 oj (List.mem_of_getElem? (by rw [List.getElem?_take,if_pos h];exact htake j oj hjm hj)) hdj
              · subst h;exact hn hLj
              · have hw:=(pair_spec (pair_atL hc h hjm ho hj) hd hdj).2 (.inr ht)
                obtain ⟨e,he,hb,hon⟩:=waitsOn_spec hw
                have:=hI.dc j oj hj hLj e he hb
                rw [hon] at this
                exact hn this
        have hkey:∀ t v,sget (SLk β) t = some v → t < c.nt:=by
          intro t v hv
          rcases hprek β t v hv with ⟨j,oj,sj,h1,h2,_,_⟩ | ⟨_,h2⟩
          · have hji:j < i:=by have:=(List.getElem?_eq_some_iff.1 h1).1;rw [List.length_take] at this;omega
            rw [List.getElem?_take,if_pos hji] at h1
            obtain ⟨d',_,_,hd',hdn',_⟩:=hstep j oj (Nat.zero_le _) h1
            rw [h2] at hd';cases hd'
            exact hdn'
          · have:=h0 t v h2
            rw [← hn0]
            exact (Array.getElem?_eq_some_iff.1 this).1
        obtain ⟨a',ha1,ha2,_⟩:=fill_act hI.size hkey hT
        have hbor:Borrow c hs (S.take i) B β w:=by
          rintro A (rfl | ⟨j,hj,sj,h1,rfl⟩)
          · exact hm.sublist ((List.sublist_append_left _ _).trans (List.sublist_append_right _ _))
          · have hji:j < i:=by have:=(List.getElem?_eq_some_iff.1 h1).1;rw [List.length_take] at this;omega
            rw [List.getElem?_take,if_pos hji] at h1
            have hLj:=hwait j (hB j hj)
            exact hm.sublist ((resF_sub (lst:=fun i=>listed.getD i false) (i:=0) h1 (by rw [Nat.zero_add];exact hLj)).append (List.sublist_append_left _ _))
        have hq:=hrun β a' w ha1 hbor
        have hex:=exec_of_same (o:=o) (ops:=l.toArray) hoo ha2
        -- what a done operation says does not hang on this one
        have hdone:∀ j,Ls listed j → ∀ x k,ancB l j k = true → β k = upd β i x k:=by
          intro j hLj x k hk
          refine (upd_ne fun e=>?_).symm
          subst e
          unfold ancB at hk
          rw [Bool.or_eq_true] at hk
          rcases hk with hk | hk
          · have:j = k:=by simpa using hk
            subst this;exact hn hLj
          · have hjl:j < l.length:=by
              have hjm:j < m:=Nat.lt_of_not_le fun hm=>hI.hi j hm hLj
              omega
            exact hn (masks_sound hI.dc hc.ac j hjl hLj k hk)
        have hnext:∀ v w',MOut i s β w v w' → wpAnyIn (FR none) 0 P .any l.toArray Q fuel (listed.setIfInBounds i true) (a.put o.dst v) w':=by
          rintro v w' ⟨x,rfl,hk,fp,hnd,hsat,hfr⟩
          refine ih _ _ _ ⟨by simpa using hI.sz,?_,?_,by rw [hd];exact hI.defers,by simpa [Act.put,hd] using hI.size,?_,?_,upd β i x,?_,?_⟩
          · intro k ok hk' hL e he hb
            rw [getD_set hil] at hL ⊢
            rcases hL with e' | hL
            · subst e'
              rw [ho] at hk';cases hk'
              exact .inr (hdeps e he hb)
            · exact .inr (hI.dc k ok hk' hL e he hb)
          · intro k hk' hL
            rw [getD_set hil] at hL
            rcases hL with e | hL
            · omega
            · exact hI.hi k hk' hL
          · intro t ht
            have h1:d ≠ t:=fun e=>by subst e;exact ht i o ho ((getD_set hil).2 (.inl rfl)) hd
            rw [hd]
            simp only [Act.put,Array.getElem?_setIfInBounds_ne h1]
            exact hI.old t fun j oj hj hL=>ht j oj hj ((getD_set hil).2 (.inr hL))
          · obtain ⟨U,hU1,hU2,hU3⟩:=hI.left
            refine ⟨U.erase i,hU1.erase i,fun k=>?_,?_⟩
            · rw [hU1.mem_erase_iff,hU2 k,getD_set hil]
              constructor
              · rintro ⟨h1,h2,h3⟩
                exact ⟨h2,fun h=>h.elim h1 h3⟩
              · rintro ⟨h1,h2⟩
                exact ⟨fun e=>h2 (.inl e),h1,fun h=>h2 (.inr h)⟩
            · have hiU:i ∈ U:=(hU2 i).2 ⟨by omega,hn⟩
              rw [List.length_erase_of_mem hiU,hU3];rfl
          · have hm2:Mem c (s.A (upd β i x)++(resF β (fun i=>listed.getD i false) S 0++(hs++mks D))) w':=Mem.gives (As:=[]) hm fun fp0 _ hf=>by
              rw [show fp0 = [] from hf]
              exact ⟨hk,fp,hnd,hsat,fun b hb=>.inr (hfr b hb)⟩
            have e1:resF β (fun i=>listed.getD i false) S 0 = resF (upd β i x) (fun i=>listed.getD i false) S 0:=resF_same fun j sj hj=>by
              refine ⟨rfl,fun hl=>?_⟩
              rw [Nat.zero_add] at hl
              have hjm:j < m:=by have:=(List.getElem?_eq_some_iff.1 hj).1;omega
              obtain ⟨oj,hoj⟩:∃ oj,l[j]? = some oj:=⟨l[j]'(by omega),List.getElem?_eq_getElem (by omega)⟩
              obtain ⟨_,_,s2,_,_,hs2,_,hok2⟩:=hstep j oj (Nat.zero_le _) (htake j oj hjm hoj)
              rw [hj] at hs2;cases hs2
              exact hok2.indA _ _ (hdone j hl x)
            rw [e1,← List.append_assoc] at hm2
            refine hm2.perm ((resF_add (k:=i) hSi ?_ ?_ ?_).append_right _)
            · rw [Nat.zero_add]
              show listed.getD i false = false
              have:¬ listed.getD i false = true:=hn
              simpa using this
            · rw [Nat.zero_add];exact (getD_set hil).2 (.inl rfl)
            · intro j hj
              rw [Nat.zero_add] at hj
              simp [Array.getD_eq_getD_getElem?,Array.getElem?_setIfInBounds_ne (Ne.symm hj)]
          · intro j oj e sj hj he hSj hL
            rw [getD_set hil] at hL
            by_cases hji:j = i
            · subst hji
              rw [ho] at hj;cases hj
              rw [hd] at he;cases he
              rw [hSi] at hSj;cases hSj
              rw [hd]
              simp [Act.put,hI.size,hdn]
            · have hL':=hL.resolve_left hji
              have hjm:j < m:=Nat.lt_of_not_le fun hm=>hI.hi j hm hL'
              obtain ⟨_,_,s2,_,_,hs2,_,hok2⟩:=hstep j oj (Nat.zero_le _) (htake j oj hjm hj)
              rw [hSj] at hs2;cases hs2
              rw [hd]
              simp only [Act.put,Array.getElem?_setIfInBounds_ne (hdist j oj e hj hjm hji he)]
              rw [← hok2.indF _ _ (hdone j hL' x)]
              exact hval j oj e sj hj he hSj hL'
        have hq0:=hq
        refine ⟨?_,fun hip=>?_⟩
        rotate_left
        · subst hip
          obtain ⟨d',x',k',ty',pos',af',hl',hsel,hfree⟩:=hpx him
          rw [ho] at hl';cases hl'
          rw [if_pos (by simp [Region.wanted])] at hq0
          unfold MRun at hq0
          obtain ⟨v,hv,hall2⟩:=ext_pure hq0
          have hfr:Region.free .any l.toArray listed i = true:=free_mono hfree fun j hj hne hb=>by
            have hj':j < l.length:=by simpa using hj
            have hb':((masks l []).getD i 0).testBit j = true:=by
              rw [Array.getD_eq_getD_getElem?] at hb
              simpa [hj'] using hb
            have hjs:j < listed.size:=by rw [hI.sz];exact hj'
            rcases ready_anc hc.ac hI.sz hI.dc hi hb' with e | hL
            · exact absurd e hne
            · unfold Ls at hL
              rw [Array.getD_eq_getD_getElem?,Array.getElem?_eq_getElem hjs] at hL ⊢
              exact hL
          refine wpAnyIn_take (oi:=⟨some d',.extract x' k',ty',pos',af',none⟩) (v:=v) rfl (by simpa using ho) hsel hfr (by simpa using hi) (fun c a w h=>(hQp c _ w h).elim) ⟨.inl ⟨by simp [Region.wanted],fun w2=>by rw [← hex];exact hall2 w2⟩,fun w2=>rfl⟩ (hnext v w hv)
        unfold wpOpIn
        rw [show l.toArray[i]? = some o from by simpa using ho]
        simp only []
        rw [wanted_of_same ha2] at hq
        split
        · rename_i hw
          rw [if_pos hw] at hq
          refine ⟨fr_about _ _ _ _ _,?_⟩
          rw [Oper.semAt_eq _ _ _ (fun cc he=>by simp [opOk,he] at hoo),← hex]
          unfold MRun at hq
          revert hq
          generalize (execOp a'.eval o).run P w = res
          intro hq
          match res,hq with
          | .ok (.value v) w',hq=>exact hnext v w' hq
          | .ok (.enter f args) w', ⟨e, hcall⟩ =>
            subst e
            refine ⟨by simp [FR,Fence.wide],(calls_wide hcall).mono fun e w'' h=>?_⟩
            obtain ⟨v,rfl,hq⟩:=h
            exact hnext v w'' hq
        · rename_i hw
          rw [if_neg hw] at hq
          exact ⟨fun _ _=>trivial,hnext undef w hq⟩
      by_cases hp:p < m ∧ p ∈ Region.ready .any l.toArray listed
      · exact (main p hp.2 hp.1).2 rfl
      · refine ⟨fun hr=>?_,fun i hi=>?_⟩
        · obtain ⟨i,hi⟩:=least_ready hI.sz hc.ac ⟨i0,by omega,hn0'⟩
          rw [hr] at hi;cases hi
        · have him:i < m:=Nat.lt_of_not_le fun hm=>by
            have hmk:=ready_maskL hc hI.sz hI.dc hi hm
            by_cases hpm:p < m
            · by_cases hLp:Ls listed p
              · exact hn0' (by
                  by_cases e:i0 = p
                  · rw [e];exact hLp
                  · exact hmk i0 hi0 e)
              · refine hp ⟨hpm,(mem_ready' hI.sz).2 ⟨l[p]'(by omega),List.getElem?_eq_getElem (by omega),hLp,fun e he hb=>?_⟩⟩
                have hlt:=acyc_spec hc.ac (List.getElem?_eq_getElem (show p < l.length by omega)) e he hb
                exact hmk e.on (by omega) (by omega)
            · exact hn0' (hmk i0 hi0 (by omega))
          exact (main i hi him).1
def AnyM (P:Program) (c:Cx) (D:List Nat) (hs:List Asn) (l:List Oper) (Q:Exit → Act → World → Prop) (m i n:Nat) (rest:List Oper) (SL:(Nat → Value) → Slots) (S:List StepP):Prop:=
  ∃ S' SL',PlanM P c hs l i (rest.take n) SL S S' SL' ∧ ∀ β,Tr c D (SL' β) (resF β (fun _=>true) S' 0++hs) (Left P l.toArray Q (l.length - m) (Lend l.length m))
theorem tr_drawM {id:Nat} (m:Nat) [hmix:Mix P] (hck:regOkL l m = true) (k:AnyM P c D hs l Q m 0 m l (fun _=>sl) []):Tr c D sl hs (WP P none (.region id l.toArray true) Q):=fun a w hst=>by
  obtain ⟨S,SL',hp,ht⟩:=k
  have h:(Code.region id l.toArray true).wpIn (FR none) 0 P (NP Q) a w:=wpIn_region_any hmix.eq (by
    refine phaseM (p:=m) (regOkP_spec hck) (fun h=>absurd h (Nat.lt_irrefl _)) (fun c a w h=>h.elim) hp hst.slots hst.size (fun β a w hst=>ht β a w hst) l.toArray.size _ _ _ ⟨by simp,?_,?_,hst.defers,hst.size,fun t _=>rfl,?_,fun _=>undef,?_,?_⟩
    · exact fun k o _ hL=>absurd hL (not_Ls _ _)
    · exact fun k _ hL=>not_Ls _ _ hL
    · exact ⟨List.range l.length,List.nodup_range,fun i=>⟨fun h=>⟨by simpa using h,not_Ls _ _⟩,fun h=>by simpa using h.1⟩,by simp⟩
    · have e:∀ (T:List StepP) (i:Nat),resF (fun _=>undef) (fun i=>(Array.replicate l.toArray.size false).getD i false) T i = []:=by
        intro T
        induction T with
        | nil=>intro i;rfl
        | cons s T ih =>
          intro i
          have:=not_Ls l.toArray.size i
          unfold Ls at this
          unfold resF
          rw [if_neg this,ih];rfl
      rw [e]
      exact hst.mem.drew
    · exact fun j o d s _ _ _ hL=>absurd hL (not_Ls _ _))
  exact wpIn_mono h fun e a' w' h=>by
    cases e with
    | panic c=>exact h.elim
    | _=>exact h
theorem tr_drawP {id:Nat} (m p:Nat) [hmix:Mix P] (hck:regOkP l m p = true) (hpx:PureAt l p) (k:AnyM P c D hs l Q m 0 m l (fun _=>sl) []):Tr c D sl hs (WP P none (.region id l.toArray true) Q):=fun a w hst=>by
  obtain ⟨S,SL',hp,ht⟩:=k
  have h:(Code.region id l.toArray true).wpIn (FR none) 0 P (NP Q) a w:=wpIn_region_any hmix.eq (by
    refine phaseM (p:=p) (regOkP_spec hck) (fun _=>hpx) (fun c a w h=>h.elim) hp hst.slots hst.size (fun β a w hst=>ht β a w hst) l.toArray.size _ _ _ ⟨by simp,?_,?_,hst.defers,hst.size,fun t _=>rfl,?_,fun _=>undef,?_,?_⟩
    · exact fun k o _ hL=>absurd hL (not_Ls _ _)
    · exact fun k _ hL=>not_Ls _ _ hL
    · exact ⟨List.range l.length,List.nodup_range,fun i=>⟨fun h=>⟨by simpa using h,not_Ls _ _⟩,fun h=>by simpa using h.1⟩,by simp⟩
    · have e:∀ (T:List StepP) (i:Nat),resF (fun _=>undef) (fun i=>(Array.replicate l.toArray.size false).getD i false) T i = []:=by
        intro T
        induction T with
        | nil=>intro i;rfl
        | cons s T ih =>
          intro i
          have:=not_Ls l.toArray.size i
          unfold Ls at this
          unfold resF
          rw [if_neg this,ih];rfl
      rw [e]
      exact hst.mem.drew
    · exact fun j o d s _ _ _ hL=>absurd hL (not_Ls _ _))
  exact wpIn_mono h fun e a' w' h=>by
    cases e with
    | panic c=>exact h.elim
    | _=>exact h
end
end Go.SL
namespace Go.SL
open Go
def gnat:Value → Nat
  | .int _ n=>n.toNat
  | _=>0
theorem gnat_of (b:Nat):gnat (.int .i64 (b:Int)) = b:=by simp [gnat]
def gsl:Value → Option Addr × Nat
  | .slice a _ c=>(a,c)
  | _=>(none,0)
theorem gsl_of (x:Option Addr × Nat):∃ v,gsl v = x:=⟨.slice x.1 0 x.2,rfl⟩
theorem Gives.slice {P:Program} {f:FuncId} {args:List Value} {w:World} {md:List Nat} {E:TypeId} {sz n:Nat} {xs:List Value} (h:Gives P f args w md (fun _:Value=>True) id (fun v=>[row E sz v n xs])) :
    Gives P f args w md (fun _:Option Addr × Nat=>True) (fun x=>.slice x.1 n x.2) (fun x=>[row E sz (.slice x.1 n x.2) n xs]):=
  Calls.mono h fun e w' ⟨v,he,_,hk,fp,hn,hs,hf⟩=>by
    have hv:∃ x:Option Addr × Nat,v = .slice x.1 n x.2:=by
      obtain ⟨f1,f2,_,⟨_,_,⟨e1,e2⟩ | ⟨g,cap,cur,e1,_⟩⟩,_⟩:=hs
      · exact ⟨(none,0),by rw [e1,e2]⟩
      · exact ⟨(_,cap),e1⟩
    obtain ⟨x,rfl⟩:=hv
    exact ⟨x,he,trivial,hk,fp,hn,hs,hf⟩
def resAll (β:Nat → Value):List StepP → List Asn
  | []=>[]
  | s :: S=>s.A β++resAll β S
theorem resF_all (β:Nat → Value):∀ (S:List StepP) (i:Nat),resF β (fun _=>true) S i = resAll β S
  | [],_=>rfl
  | s :: S,i=>by rw [resF,resAll,if_pos rfl,resF_all β S]
def rowE (E:TypeId) (sz:Nat) (v:Value) (n:Nat) (xs:List Value):Asn where
  sat h fp:=(n = 0 ∧ xs = [] ∧ fp = [] ∧ ∃ a cap,v = .slice a 0 cap ∧ cap ≤ maxLen) ∨ (row E sz v n xs).sat h fp
  loc:=fun h hb=>h.imp id fun h=>(row E sz v n xs).loc h hb
  own:=by
    rintro h fp (⟨_,_,e,_⟩ | h1) b hb
    · rw [e] at hb;cases hb
    · exact (row E sz v n xs).own h1 b hb
theorem Mem.rdRowE {c:Cx} {hs hs':List Asn} {w:World} (hm:Mem c hs w) {E:TypeId} {sz:Nat} {v:Value} {n:Nat} {ys:List Value} {xs:List (List Value)} (ht:Take hs (rowE E sz v n ys) hs') (he:ys = xs.flatten) (hx:∀ r ∈ xs,r.length = sz) (hn:xs.length = n):Rd w v sz xs:=by
  obtain ⟨k,fp,hnd,⟨f1,f2,rfl,h1,h2⟩,hb⟩:=hm.take ht
  rcases h1 with ⟨h0,_,_,a,cap,rfl,hc⟩ | h1
  · subst h0
    obtain rfl:xs = []:=List.length_eq_zero_iff.1 hn
    exact ⟨a,cap,0,0,rfl,Nat.zero_le _,hc,fun h=>absurd rfl h,fun i r h=>by simp at h⟩
  · subst he
    exact row_rd hx hn h1
section
variable {P:Program} {c:Cx} {D:List Nat} {sl:Slots} {hs hs':List Asn} {X:Act → World → Prop} {Q:Exit → Act → World → Prop} {l:List Oper} {m i n d:Nat} {op:Op} {ty:TypeId} {pos:String} {af:Array Edge} {rest:List Oper} {SL:(Nat → Value) → Slots} {S:List StepP}
theorem anc_self (l:List Oper) (i:Nat):ancB l i i = true:=by simp [ancB]
theorem am_step {o:Oper} {s:StepP} (hd:o.dst = some d) (hdn:Nat.blt d c.nt = true) (h:StepOk P c hs l i o SL S s) (k:AnyM P c D hs l Q m (i + 1) n rest (fun β=>(d,s.F β) :: SL β) (S++[s])):AnyM P c D hs l Q m i (n + 1) (o :: rest) SL S:=by
  obtain ⟨S',SL',hp,ht⟩:=k
  exact ⟨S',SL',.step hd (by simpa [Nat.blt_eq] using hdn) h hp,ht⟩
theorem am_gOn {dst:Option Tmp} {j gs:Nat} {want:Bool} (hj:((l.toArray[j]?).bind (·.dst)) = some gs) (hq:∀ β,sget (SL β) gs = some (.bool want))
    (k:AnyM P c D hs l Q m i (n + 1) (⟨dst,op,ty,pos,af,none⟩ :: rest) SL S):AnyM P c D hs l Q m i (n + 1) (⟨dst,op,ty,pos,af,some (j,want)⟩ :: rest) SL S:=by
  obtain ⟨S',SL',hp,ht⟩:=k
  refine ⟨S',SL',?_,ht⟩
  cases hp with
  | step hd hdn h t =>
    obtain ⟨h1,h2,B,hB,hr⟩:=h
    refine .step hd hdn ⟨h1,h2,B,hB,fun β a w hs1 hb=>?_⟩ t
    have:=hr β a w hs1 hb
    rw [if_pos (by simp [Region.wanted])] at this
    rw [wanted_gv (o:=⟨dst,op,ty,pos,af,some (j,want)⟩) (c0:=true) rfl hj hs1 (by rw [hq β];rfl),if_pos (by simp)]
    exact this
theorem am_end (k:∀ β,Tr c D (SL β) (resAll β S++hs) (Left P l.toArray Q (l.length - m) (Lend l.length m))):AnyM P c D hs l Q m i 0 rest SL S:=
  ⟨S,SL,.nil,fun β=>by rw [resF_all];exact k β⟩
theorem am_val {F:(Nat → Value) → Value} (hr:∀ β,RunV P c (SL β) hs ⟨some d,op,ty,pos,af,none⟩ (F β)) (hi:Indep l i F) (hd:Nat.blt d c.nt = true) (k:AnyM P c D hs l Q m (i + 1) n rest (fun β=>(d,F β) :: SL β) (S++[⟨F,fun _=>[]⟩])) :
    AnyM P c D hs l Q m i (n + 1) (⟨some d,op,ty,pos,af,none⟩ :: rest) SL S:=
  am_step (s:=⟨F,fun _=>[]⟩) rfl hd ⟨hi,fun _ _ _=>rfl,[],by simp,fun β a w h1 h2=>by
    rw [if_pos (by simp [Region.wanted])]
    unfold MRun
    rw [(hr β).2 a w h1 h2.mem]
    exact ⟨β i,by rw [upd_self],.refl _ _,[],List.nodup_nil,rfl,by simp⟩⟩ k
theorem am_callV {f:FuncId} {args:(Nat → Value) → List Value} {F:(Nat → Value) → Value} (B:List Nat) (hB:(B.all fun j=>waitsOn ⟨some d,op,ty,pos,af,none⟩ j) = true) (hr:∀ β,RunC P (SL β) ⟨some d,op,ty,pos,af,none⟩ f (args β)) (hi:Indep l i F) (hd:Nat.blt d c.nt = true)
    (hc:∀ β w,Borrow c hs S B β w → GivesV P f (args β) w (F β)) (k:AnyM P c D hs l Q m (i + 1) n rest (fun β=>(d,F β) :: SL β) (S++[⟨F,fun _=>[]⟩])) :
    AnyM P c D hs l Q m i (n + 1) (⟨some d,op,ty,pos,af,none⟩ :: rest) SL S:=
  am_step (s:=⟨F,fun _=>[]⟩) rfl hd ⟨hi,fun _ _ _=>rfl,B,fun j hj=>List.all_eq_true.1 hB j hj,fun β a w h1 h2=>by
    rw [if_pos (by simp [Region.wanted])]
    unfold MRun
    rw [(hr β).2 a w h1]
    exact ⟨rfl,(hc β w h2).mono fun e w' ⟨he,hk⟩=>⟨F β,he,β i,by rw [upd_self],hk,[],List.nodup_nil,rfl,by simp⟩⟩⟩ k
theorem am_call {ι:Type} {Φ:ι → Prop} {val:ι → Value} {own:ι → List Asn} (g:Value → ι) (hg:∀ x,∃ v,g v = x) {f:FuncId} {args:(Nat → Value) → List Value} (B:List Nat) (hB:(B.all fun j=>waitsOn ⟨some d,op,ty,pos,af,none⟩ j) = true)
    (hr:∀ β,RunC P (SL β) ⟨some d,op,ty,pos,af,none⟩ f (args β)) (hd:Nat.blt d c.nt = true) (hc:∀ β w,Borrow c hs S B β w → Gives P f (args β) w [] Φ val own)
    (k:AnyM P c D hs l Q m (i + 1) n rest (fun β=>(d,val (g (β i))) :: SL β) (S++[⟨fun β=>val (g (β i)),fun β=>own (g (β i))⟩])) :
    AnyM P c D hs l Q m i (n + 1) (⟨some d,op,ty,pos,af,none⟩ :: rest) SL S:=
  am_step (s:=⟨fun β=>val (g (β i)),fun β=>own (g (β i))⟩) rfl hd ⟨fun β β' h=>by simp only [h i (anc_self l i)],fun β β' h=>by simp only [h i (anc_self l i)],B,fun j hj=>List.all_eq_true.1 hB j hj,fun β a w h1 h2=>by
    rw [if_pos (by simp [Region.wanted])]
    unfold MRun
    rw [(hr β).2 a w h1]
    refine ⟨rfl,(hc β w h2).mono fun e w' ⟨x,he,_,hk,fp,hn,hs',hf⟩=>?_⟩
    obtain ⟨v,hv⟩:=hg x
    refine ⟨val x,he,v,by simp only [upd_at,hv],hk,fp,hn,by simp only [upd_at,hv];exact hs',fun b hb=>?_⟩
    rcases hf b hb with h | h
    · cases h
    · exact h⟩ k
theorem am_new {V:Nat → Value} {ob:(Nat → Value) → Obj} (hr:∀ β,RunN P c (SL β) hs ⟨some d,op,ty,pos,af,none⟩ V (ob β)) (hi:∀ β β',(∀ k,k ≠ i → ancB l i k = true → β k = β' k) → ob β = ob β') (hd:Nat.blt d c.nt = true)
    (k:AnyM P c D hs l Q m (i + 1) n rest (fun β=>(d,V (gnat (β i))) :: SL β) (S++[⟨fun β=>V (gnat (β i)),fun β=>[blk (gnat (β i)) (ob β)]⟩])) :
    AnyM P c D hs l Q m i (n + 1) (⟨some d,op,ty,pos,af,none⟩ :: rest) SL S:=
  am_step (s:=⟨fun β=>V (gnat (β i)),fun β=>[blk (gnat (β i)) (ob β)]⟩) rfl hd ⟨fun β β' h=>by simp only [h i (anc_self l i)],fun β β' h=>by simp only [h i (anc_self l i),hi β β' fun k _ hk=>h k hk],[],by simp,fun β a w h1 h2=>by
    rw [if_pos (by simp [Region.wanted])]
    unfold MRun
    rw [(hr β).2 a w h1 h2.mem]
    have e:ob (upd β i (.int .i64 (w.heap.size:Int))) = ob β:=hi _ _ fun k hk _=>upd_ne hk
    exact ⟨.int .i64 (w.heap.size:Int),by simp only [upd_at,gnat_of],.alloc _ _ _,[w.heap.size],by simp,⟨[w.heap.size],[],rfl,⟨by simp only [upd_at,gnat_of],by simp only [upd_at,gnat_of];rw [e];exact World.alloc_heap_new w (ob β)⟩,rfl⟩,by simp⟩⟩ k
theorem am_append0 {t e:TypeId} {agg:Bool} {size bytes kx:Nat} {z:Value} {x y:Operand} {Vy:(Nat → Value) → Value} {news:List (List Value)} [hu:Und P t (.slice e)] [hT:Ty P e agg size] [hZ:Zer P e z] [hB:Byt P e bytes]
    (hS:S[kx]? = some ⟨fun β=>.slice (some ⟨gnat (β kx),0,none⟩) 0 0,fun β=>[blk (gnat (β kx)) (.cells #[] e (0,0))]⟩) (hw:waitsOn ⟨some d,.call ⟨.builtin .append,#[x,y],#[t,t]⟩,ty,pos,af,none⟩ kx = true)
    (hx:∀ β,Is (SL β) x (.slice (some ⟨gnat (β kx),0,none⟩) 0 0)) (hy:∀ β,Is (SL β) y (Vy β)) (hsrc:∀ β w,Mem c hs w → Rd w (Vy β) size news) (h1:∀ r ∈ news,∀ u ∈ r,u.oneCell' = true) (hz:z.cells.size = size) (hsz:Nat.blt 0 size = true) (hb0:Nat.blt 0 bytes = true)
    (hb:news.length * bytes ≤ 140737488355328) (hd:Nat.blt d c.nt = true)
    (k:AnyM P c D hs l Q m (i + 1) n rest (fun β=>(d,.slice (gsl (β i)).1 news.length (gsl (β i)).2) :: SL β) (S++[⟨fun β=>.slice (gsl (β i)).1 news.length (gsl (β i)).2,fun β=>[rowE e size (.slice (gsl (β i)).1 news.length (gsl (β i)).2) news.length news.flatten]⟩])) :
    AnyM P c D hs l Q m i (n + 1) (⟨some d,.call ⟨.builtin .append,#[x,y],#[t,t]⟩,ty,pos,af,none⟩ :: rest) SL S:=
  am_step (s:=⟨fun β=>.slice (gsl (β i)).1 news.length (gsl (β i)).2,fun β=>[rowE e size (.slice (gsl (β i)).1 news.length (gsl (β i)).2) news.length news.flatten]⟩) rfl hd ⟨fun β β' h=>by simp only [h i (anc_self l i)],fun β β' h=>by simp only [h i (anc_self l i)],[kx],by simpa using hw,fun β a w hsl hbor=>by
    rw [if_pos (by simp [Region.wanted])]
    obtain ⟨kk,fp,_,⟨f1,f2,_,⟨_,hbb⟩,_⟩,_⟩:=hbor.at kx (by simp) hS
    have hR:=hsrc β w hbor.mem
    have hvx:=hx β a hsl
    have hvy:=hy β a hsl
    generalize gnat (β kx) = b at hbb hvx
    have hlen:=flat_len hR.sz
    by_cases hne:news = []
    · subst hne
      obtain ⟨aa,cap,b2,o2,hV,_⟩:=hR
      rw [hV] at hvy
      simp only [List.length_nil] at hvy
      have hrun:=run_append0 (P:=P) (t:=t) (e:=e) (ty:=ty) (w:=w) (agg:=agg) (size:=size) (a:=aa) (cp:=cap) (n:=0) (v:=.slice (some ⟨b,0,none⟩) 0 0) (.inr ⟨b,0,rfl,Nat.le_refl _⟩)
      have:(execOp a.eval ⟨some d,.call ⟨.builtin .append,#[x,y],#[t,t]⟩,ty,pos,af,none⟩).run P w = .ok (.value (.slice (some ⟨b,0,none⟩) 0 0)) w:=by
        simp [execOp,resolve,invoke,builtin,hvx,hvy,hrun]
      unfold MRun
      rw [this]
      exact ⟨.slice (some ⟨b,0,none⟩) 0 0,by simp only [upd_at,gsl,List.length_nil],.refl _ _,[],List.nodup_nil,⟨[],[],rfl,.inl ⟨rfl,rfl,rfl,some ⟨b,0,none⟩,0,by simp only [upd_at,gsl,List.length_nil],Nat.zero_le _⟩,rfl⟩,by simp⟩
    · obtain ⟨aa,cap,b2,o2,hV,hcap,hmax,haa,hcc⟩:=hR
      have:=haa hne
      subst this
      rw [hV] at hvy
      obtain ⟨de,ii,hde,hii,_,hsize⟩:=Ty.parts (P:=P) (t:=e) (agg:=agg) (n:=size)
      have hzero:ii.zero = some z:=by have:=hZ.eq;rw [hii] at this;simpa using this
      have hbytes:ii.bytes = bytes:=by have:=hB.eq;rw [hii] at this;simpa using this
      have hbpos:0 < bytes:=by simpa using hb0
      have hmaxn:0 + news.length ≤ maxLen:=by
        have:news.length * 1 ≤ news.length * bytes:=Nat.mul_le_mul_left _ hbpos
        unfold maxLen;omega
      have hnl:0 < news.length:=List.length_pos_iff.2 hne
      have hn:∀ (j:Nat) (u:Value),news.flatten[j]? = some u → w.cell? ⟨b2,o2 + j,none⟩ = some u:=flat_cells hcc
      have h1':∀ u ∈ news.flatten,u.oneCell' = true:=fun u hu=>by obtain ⟨r,hr,hur⟩:=List.mem_flatten.1 hu;exact h1 r hr u hur
      have hown:w.ownsRow 0 e size (.slice (some ⟨b,0,none⟩) 0 0) 0 []:=⟨by simp,.inr ⟨b,0,#[],rfl,Nat.zero_le _,hbb,Nat.le_refl _,Nat.zero_le _,by simp,by simp⟩⟩
      obtain ⟨v',w',hrun,hown',hgr,_⟩:=run_append_own (P:=P) w 0 t ty e ii z size bytes hu.eq hii hzero hsize hbytes hz (by simpa using hsz) (.slice (some ⟨b,0,none⟩) 0 0) 0 [] hown ⟨b2,o2,none⟩ news.length cap news.flatten hlen
        (fun j u hj=>by rw [addr_add];exact hn j u hj) h1' hmaxn (by simpa using hb) (Nat.zero_le _)
      have hr2:=run_append_grow (P:=P) w t ty e ii z hu.eq hii hzero ⟨b,0,none⟩ 0 0 [] (by simp) (by simp) ⟨b2,o2,none⟩ news.length cap news.flatten (by rw [hsize];exact hlen) (fun j u hj=>by rw [addr_add];exact hn j u hj) (by omega) (by unfold maxLen at hmaxn;omega) (growslice_fits (by omega) (by rw [hbytes];simpa using hb))
      rw [hrun] at hr2
      obtain ⟨e1,e2⟩:v' = _ ∧ w' = _:=by
        injection hr2 with e1 e2;exact ⟨e1,e2⟩
      have hk:Keeps [] w w':=by rw [e2];exact (Keeps.drew [] w).trans (.alloc _ _ _)
      have hsz2:w.drew.heap.size = w.heap.size:=rfl
      have:(execOp a.eval ⟨some d,.call ⟨.builtin .append,#[x,y],#[t,t]⟩,ty,pos,af,none⟩).run P w = .ok (.value v') w':=by
        simp [execOp,resolve,invoke,builtin,hvx,hvy,hrun]
      unfold MRun
      rw [this]
      have hv':v' = .slice (gsl v').1 news.length (gsl v').2:=by rw [e1];simp [gsl]
      refine ⟨v',by simp only [upd_at];exact hv',hk,v'.ownBlock.toList,by cases v'.ownBlock <;> simp,⟨v'.ownBlock.toList,[],by simp,.inr ?_,rfl⟩,fun q hq=>?_⟩
      · simp only [upd_at]
        rw [← hv']
        have:=row_of_owns hown'
        simpa using this
      · rw [e1] at hq
        simp [Value.ownBlock] at hq
        omega⟩ k
end
end Go.SL
namespace Go.SL
open Go
section
variable {P:Program} {c:Cx} {sl:Slots} {hs:List Asn} {dst:Option Tmp} {ty:TypeId} {pos:String} {af:Array Edge} {g:Option (Nat × Bool)}
def strOf (ns:List Int):ByteArray:=ns.foldl (fun r n=>r.push (UInt8.ofNat n.toNat)) ByteArray.empty
theorem rk_convBSn {t u e:TypeId} {x:Operand} {b o n cp:Nat} {ns:List Int} [ht:Und P t (.slice e)] [he:Und P e (.int .u8)] [hu:Und P u .string] (hx:Is sl x (.slice (some ⟨b,o,none⟩) n cp)) (hv:Ats c hs b o (ns.map (Value.int .u8))) (hl:ns.length = n) :
    RunV P c sl hs ⟨dst,.convert t u x,ty,pos,af,g⟩ (.string (strOf ns)):=
  ⟨by simp,fun ac w ha hm=>by
    have h1:=rk_loadCells (P:=P) (w:=w) (b:=b) (o:=o) (n:=n) (vs:=ns.map (Value.int .u8)) (by rw [List.length_map,hl]) (fun j v h=>hv.get j v h w hm)
    have h2:=run_bytesToString (P:=P) w ⟨b,o,none⟩ n cp ns h1
    simp only [execOp,hx ac ha]
    refine value_of ?_
    rw [run_convert_bytes_string w t u e _ _ _ ht.eq he.eq hu.eq,h2]
    rfl⟩
end
section
variable {P:Program} {c:Cx} {D:List Nat} {hs:List Asn} {Q:Exit → Act → World → Prop} {l:List Oper} {m i n d:Nat} {op:Op} {ty:TypeId} {pos:String} {af:Array Edge} {rest:List Oper} {SL:(Nat → Value) → Slots} {S:List StepP}
theorem indC {v:Value}:Indep l i (fun _=>v):=fun _ _ _=>rfl
end
section
variable {P:Program} {c:Cx} {D:List Nat} {sl:Slots} {hs:List Asn} {Q:Exit → Act → World → Prop} {ops:Array Oper} {fuel:Nat} {listed:Array Bool}
end
section
variable {P:Program} {r:Option Nat} {c:Cx} {D:List Nat} {sl:Slots} {hs:List Asn} {Q:Exit → Act → World → Prop} {ops:Array Oper} {fuel i:Nat} {listed:Array Bool}
end
end Go.SL
namespace Go.SL
open Go
variable {P:Program} {c:Cx} {sl:Slots} {hs:List Asn} {dst:Option Tmp} {ty:TypeId} {pos:String} {af:Array Edge} {g:Option (Nat × Bool)}
end Go.SL
namespace Go.SL
open Go
section
variable {P:Program} {c:Cx} {sl:Slots} {hs:List Asn} {dst:Option Tmp} {ty:TypeId} {pos:String} {af:Array Edge} {g:Option (Nat × Bool)}
theorem rk_sliceA {t e:TypeId} {m n:Nat} {agg:Bool} {x:Operand} {b o:Nat} [hu:Und P t (.array m e)] [hT:Ty P e agg n] (hx:Is sl x (.pointer (some ⟨b,o,none⟩))) :
    RunV P c sl hs ⟨dst,.slice t x none none none,ty,pos,af,g⟩ (.slice (some ⟨b,o,none⟩) m m):=
  ⟨by simp,fun ac w ha _=>by
    simp only [execOp,hx ac ha,Option.map]
    refine value_of ?_
    simp [Instr.sliceAt,rk_underlying hu.eq,Instr.sureAddr,Instr.sliceBounds,rk_sizeOf (t:=e) (agg:=agg) (n:=n),addr_add]⟩
end
end Go.SL
