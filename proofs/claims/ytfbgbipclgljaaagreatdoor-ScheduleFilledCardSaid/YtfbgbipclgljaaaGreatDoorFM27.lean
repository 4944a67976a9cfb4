/- Parts of the proof: GkRegL S84 S85 S86 S87 S94p S73. -/
import Derived.Test.YtfbgbipclgljaaaGreatDoorFM26
import Derived.Test.YtfbgbipclgljaaaGreatDoorFM23
import Derived.Test.YtfbgbipclgljaaaGreatDoorFM06
import Derived.Test.YtfbgbipclgljaaaGreatDoorFM21
import Derived.Test.YtfbgbipclgljaaaGreatDoorFM25
import Derived.Test.YtfbgbipclgljaaaGreatDoorFM24
import Derived.Test.YtfbgbipclgljaaaGreatDoorFM22
set_option linter.unusedSectionVars false
set_option linter.unusedVariables false
set_option linter.unusedSimpArgs false
namespace Go.SL
open Go
def tkOf:List (Nat × Nat) → Nat → Nat
  | [],_=>0
  | p :: r,j=>bif Nat.beq p.1 j then p.2 else tkOf r j
theorem tkOf_no:∀ {tks:List (Nat × Nat)} {i j:Nat},(tks.all fun p=>!Nat.beq p.2 i) = true → tkOf tks j = i → 0 < i → False
  | [], i, j, _, h, hp => by
    have h:0 = i:=h
    omega
  | p :: r, i, j, h, h2, hp => by
    rw [List.all_cons,Bool.and_eq_true] at h
    unfold tkOf at h2
    cases e:Nat.beq p.1 j with
    | true=>rw [e] at h2;have h2:p.2 = i:=h2;rw [h2] at h;simp at h
    | false=>rw [e] at h2;exact tkOf_no h.2 h2 hp
theorem tkOf_only:∀ {tks:List (Nat × Nat)} {i jx:Nat},(tks.all fun p=>!Nat.beq p.2 i || Nat.beq p.1 jx) = true → Nat.blt 0 i = true → ∀ k,tkOf tks k = i → k = jx
  | [], i, jx, _, h0, k, h => by
    have h:0 = i:=h
    subst h;cases h0
  | p :: r, i, jx, h, h0, k, hk => by
    rw [List.all_cons,Bool.and_eq_true] at h
    unfold tkOf at hk
    cases e:Nat.beq p.1 k with
    | true =>
      rw [e] at hk
      have hk:p.2 = i:=hk
      have h1:=h.1
      rw [hk,show Nat.beq i i = true by simp] at h1
      have e1:=Nat.eq_of_beq_eq_true e
      have e2:=Nat.eq_of_beq_eq_true (show Nat.beq p.1 jx = true by simpa using h1)
      omega
    | false=>rw [e] at hk;exact tkOf_only h.2 h0 k hk
section
variable {P:Program} {c:Cx} {D:List Nat} {sl:Slots} {hs hs':List Asn} {X:Act → World → Prop} {Q:Exit → Act → World → Prop} {l:List Oper} {m i n d:Nat} {tks:List (Nat × Nat)} {op:Op} {ty:TypeId} {pos:String} {af:Array Edge} {rest:List Oper} {SL:(Nat → Value) → Slots} {S:List StepP}
theorem ak_step {o:Oper} {s:StepP} (hd:o.dst = some d) (hdn:Nat.blt d c.nt = true) (h:StepK P c hs l (tkOf tks) i o SL S s) (k:AnyK (tkOf tks) P c D hs l Q m (i + 1) n rest (fun β=>(d,s.F β) :: SL β) (S++[s])):AnyK (tkOf tks) P c D hs l Q m i (n + 1) (o :: rest) SL S:=by
  obtain ⟨S',SL',hp,ht⟩:=k
  exact ⟨S',SL',.step hd (by simpa [Nat.blt_eq] using hdn) h hp,ht⟩
theorem ak_end (k:∀ β,Tr c D (SL β) (resF β (pk (tkOf tks) (fun i=>Nat.blt i m)) S 0++hs) (Left P l.toArray Q (l.length - m) (Lend l.length m))):AnyK (tkOf tks) P c D hs l Q m i 0 rest SL S:=
  ⟨S,SL,.nil,k⟩
theorem resF_one {β:Nat → Value} {p:Nat → Bool} {s:StepP}:∀ {S:List StepP} {i jx:Nat},S[jx]? = some s → (∀ k,p k = Nat.beq k (i + jx)) → resF β p S i = s.A β
  | [],_,_,h,_=>by simp at h
  | s0 :: S, i, 0, h, hp => by
    simp only [List.getElem?_cons_zero,Option.some.injEq] at h
    subst h
    unfold resF
    rw [hp i,show Nat.beq i (i + 0) = true by simp,if_pos rfl]
    have:resF β p S (i + 1) = []:=by
      have h:=resF_cut (β:=β) (q:=p) (S:=S) (n:=0) (i:=i + 1) fun j hj=>by
        rw [hp j]
        exact Bool.eq_false_iff.2 fun e=>by have:=Nat.eq_of_beq_eq_true e;omega
      rw [h,List.take_zero];rfl
    rw [this,List.append_nil]
  | s0 :: S, i, jx + 1, h, hp => by
    unfold resF
    rw [hp i,show Nat.beq i (i + (jx + 1)) = false from Bool.eq_false_iff.2 fun e=>by have:=Nat.eq_of_beq_eq_true e;omega]
    simp only [Bool.false_eq_true,if_false,List.nil_append]
    exact resF_one (i:=i + 1) (jx:=jx) (by simpa using h) fun k=>by rw [hp k,show i + (jx + 1) = i + 1 + jx by omega]
theorem ak_append {t e:TypeId} {agg:Bool} {size bytes jx n0:Nat} {z:Value} {x y:Operand} {Vx Vy:(Nat → Value) → Value} {Ax:(Nat → Value) → List Asn} {xs:List Value} {news:List (List Value)} [hu:Und P t (.slice e)] [hT:Ty P e agg size] [hZ:Zer P e z] [hBy:Byt P e bytes] (B:List Nat)
    (hB:(B.all fun j=>waitsT l ⟨some d,.call ⟨.builtin .append,#[x,y],#[t,t]⟩,ty,pos,af,none⟩ j && Nat.beq (tkOf tks j) 0) = true)
    (hS:S[jx]? = some ⟨Vx,Ax⟩) (hrow:∀ β w fp,Sats (hp w) (Ax β) fp → (row e size (Vx β) n0 xs).sat (hp w) fp)
    (htk:∀ k,tkOf tks k = i → k = jx) (hti:tkOf tks jx = i) (h0:Nat.blt 0 i = true) (hwx:waitsOn ⟨some d,.call ⟨.builtin .append,#[x,y],#[t,t]⟩,ty,pos,af,none⟩ jx = true)
    (hx:∀ β,Is (SL β) x (Vx β)) (hy:∀ β,Is (SL β) y (Vy β)) (hsrc:∀ β w,Borrow c hs S B β w → Rd w (Vy β) size news) (h1:∀ r ∈ news,∀ u ∈ r,u.oneCell' = true) (hz:z.cells.size = size) (hsz:Nat.blt 0 size = true) (hb0:Nat.blt 0 bytes = true)
    (hb:(n0 + news.length) * bytes ≤ 140737488355328) (hd:Nat.blt d c.nt = true)
    (k:AnyK (tkOf tks) P c D hs l Q m (i + 1) n rest (fun β=>(d,β i) :: SL β) (S++[⟨fun β=>β i,fun β=>[row e size (β i) (n0 + news.length) (xs++news.flatten)]⟩])) :
    AnyK (tkOf tks) P c D hs l Q m i (n + 1) (⟨some d,.call ⟨.builtin .append,#[x,y],#[t,t]⟩,ty,pos,af,none⟩ :: rest) SL S:=by
  refine ak_step (s:=⟨fun β=>β i,fun β=>[row e size (β i) (n0 + news.length) (xs++news.flatten)]⟩) rfl hd ⟨fun β β' h=>by simp only [h i (anc_self l i)],fun β β' h=>by simp only [h i (anc_self l i)],⟨B,fun j hj=>?_,fun β a w fp0 hsl hbor hsat=>?_⟩,fun j hj _=>by rw [htk j hj];exact hwx⟩ k
  · have:=List.all_eq_true.1 hB j hj
    rw [Bool.and_eq_true] at this
    exact ⟨this.1,by simpa using this.2⟩
  rw [if_pos (by simp [Region.wanted])]
  rw [resF_one (i:=0) hS fun k=>by
    rw [Nat.zero_add]
    unfold takenB
    rw [h0,Bool.true_and]
    by_cases e:k = jx
    · subst e;rw [hti];simp
    · rw [show Nat.beq k jx = false from Bool.eq_false_iff.2 fun h=>e (Nat.eq_of_beq_eq_true h)]
      exact Bool.eq_false_iff.2 fun h=>e (htk k (Nat.eq_of_beq_eq_true h))] at hsat
  have hr0:=hrow β w fp0 hsat
  have hR:=hsrc β w hbor
  have hvx:=hx β a hsl
  have hvy:=hy β a hsl
  have hlen:=flat_len hR.sz
  by_cases hne:news = []
  · subst hne
    obtain ⟨aa,cap,b,o,hV,_⟩:=hR
    rw [hV] at hvy
    have hsh:(Vx β = .slice none 0 0 ∧ n0 = 0) ∨ ∃ g cap,Vx β = .slice (some ⟨g,0,none⟩) n0 cap ∧ n0 ≤ cap:=by
      obtain ⟨_,_,h1⟩:=hr0
      exact h1.imp id fun ⟨g,cap,cur,e,_,hc,_⟩=>⟨g,cap,e,hc⟩
    have hrun:(execOp a.eval ⟨some d,.call ⟨.builtin .append,#[x,y],#[t,t]⟩,ty,pos,af,none⟩).run P w = .ok (.value (Vx β)) w:=by
      have:=run_append0 (P:=P) (t:=t) (e:=e) (ty:=ty) (w:=w) (agg:=agg) (size:=size) (a:=aa) (cp:=cap) hsh
      simp only [List.length_nil] at hvy
      simp [execOp,resolve,invoke,builtin,hvx,hvy,this]
    unfold MRun
    rw [hrun]
    refine ⟨Vx β,by simp only [upd_at],.refl _ _,fp0,?_,⟨fp0,[],by simp,?_,rfl⟩,fun b hb=>.inl hb⟩
    · rw [hr0.1];cases (Vx β).ownBlock <;> simp
    · simp only [upd_at,List.length_nil,Nat.add_zero,List.flatten_nil,List.append_nil]
      exact hr0
  · obtain ⟨aa,cap,b2,o2,hV,hcap,hmax,haa,hcc⟩:=hR
    have:=haa hne
    subst this
    rw [hV] at hvy
    obtain ⟨de,ii,hde,hii,_,hsize⟩:=Ty.parts (P:=P) (t:=e) (agg:=agg) (n:=size)
    have hzero:ii.zero = some z:=by have:=hZ.eq;rw [hii] at this;simpa using this
    have hbytes:ii.bytes = bytes:=by have:=hBy.eq;rw [hii] at this;simpa using this
    have hbpos:0 < bytes:=by simpa using hb0
    have hown:=row_owns hr0
    have hmaxn:n0 + news.length ≤ maxLen:=by
      have:(n0 + news.length) * 1 ≤ (n0 + news.length) * bytes:=Nat.mul_le_mul_left _ hbpos
      unfold maxLen;omega
    have hn:∀ (j:Nat) (u:Value),news.flatten[j]? = some u → w.cell? ⟨b2,o2 + j,none⟩ = some u:=flat_cells hcc
    have h1':∀ u ∈ news.flatten,u.oneCell' = true:=fun u hu=>by obtain ⟨r,hr,hur⟩:=List.mem_flatten.1 hu;exact h1 r hr u hur
    obtain ⟨v',w',hrun,hown',hgr,_⟩:=run_append_own (P:=P) w 0 t ty e ii z size bytes hu.eq hii hzero hsize hbytes hz (by simpa using hsz) (Vx β) n0 xs hown ⟨b2,o2,none⟩ news.length cap news.flatten hlen
      (fun j u hj=>by rw [addr_add];exact hn j u hj) h1' hmaxn hb (Nat.zero_le _)
    have hloc:=append_loc (P:=P) (t:=t) (ty:=ty) hu.eq hii hzero (by rw [hsize];exact hown) (a:=⟨b2,o2,none⟩) (m:=news.length) (cp:=cap) (by rw [hsize];exact hlen) (fun j u hj=>by rw [addr_add];exact hn j u hj) h1' hmaxn (by rw [hbytes];exact hb) hrun
    have hex:(execOp a.eval ⟨some d,.call ⟨.builtin .append,#[x,y],#[t,t]⟩,ty,pos,af,none⟩).run P w = .ok (.value v') w':=by
      simp [execOp,resolve,invoke,builtin,hvx,hvy,hrun]
    unfold MRun
    rw [hex]
    have hfp:fp0 = (Vx β).ownBlock.toList:=hr0.1
    refine ⟨v',by simp only [upd_at],⟨hgr.os,hgr.tape,hgr.output,hgr.size,fun q hq hnq=>hgr.block q hq (fun he=>hnq ?_)⟩,v'.ownBlock.toList,by cases v'.ownBlock <;> simp,⟨v'.ownBlock.toList,[],(List.append_nil _).symm,by simp only [upd_at];exact row_of_owns hown',rfl⟩,fun q hq=>?_⟩
    · rw [hfp,← he];simp
    · have hq':v'.ownBlock = some q:=by simpa [Option.mem_toList] using hq
      rcases hloc with h | h
      · left;rw [hfp,← h,hq'];simp
      · right
        rw [h] at hq'
        cases hq'
        exact Nat.le_refl _
theorem ak_callT {ι:Type} {Φ:ι → Prop} {val:ι → Value} {own:ι → List Asn} (g:Value → ι) (hg:∀ x,∃ v,g v = x) {jx:Nat} {Vx:(Nat → Value) → Value} {Ax:(Nat → Value) → List Asn} {f:FuncId} {args:(Nat → Value) → List Value} (B:List Nat)
    (hB:(B.all fun j=>waitsT l ⟨some d,op,ty,pos,af,none⟩ j && Nat.beq (tkOf tks j) 0) = true) (hS:S[jx]? = some ⟨Vx,Ax⟩)
    (htk:∀ k,tkOf tks k = i → k = jx) (hti:tkOf tks jx = i) (h0:Nat.blt 0 i = true) (hwx:waitsOn ⟨some d,op,ty,pos,af,none⟩ jx = true)
    (hr:∀ β,RunC P (SL β) ⟨some d,op,ty,pos,af,none⟩ f (args β)) (hd:Nat.blt d c.nt = true) (hc:∀ β w fp,Borrow c hs S B β w → Sats (hp w) (Ax β) fp → Gives P f (args β) w fp Φ val own)
    (k:AnyK (tkOf tks) P c D hs l Q m (i + 1) n rest (fun β=>(d,val (g (β i))) :: SL β) (S++[⟨fun β=>val (g (β i)),fun β=>own (g (β i))⟩])) :
    AnyK (tkOf tks) P c D hs l Q m i (n + 1) (⟨some d,op,ty,pos,af,none⟩ :: rest) SL S:=by
  refine ak_step (s:=⟨fun β=>val (g (β i)),fun β=>own (g (β i))⟩) rfl hd ⟨fun β β' h=>by simp only [h i (anc_self l i)],fun β β' h=>by simp only [h i (anc_self l i)],⟨B,fun j hj=>?_,fun β a w fp0 hsl hbor hsat=>?_⟩,fun j hj _=>by rw [htk j hj];exact hwx⟩ k
  · have:=List.all_eq_true.1 hB j hj
    rw [Bool.and_eq_true] at this
    exact ⟨this.1,by simpa using this.2⟩
  rw [if_pos (by simp [Region.wanted])]
  rw [resF_one (i:=0) hS fun k=>by
    rw [Nat.zero_add]
    unfold takenB
    rw [h0,Bool.true_and]
    by_cases e:k = jx
    · subst e;rw [hti];simp
    · rw [show Nat.beq k jx = false from Bool.eq_false_iff.2 fun h=>e (Nat.eq_of_beq_eq_true h)]
      exact Bool.eq_false_iff.2 fun h=>e (htk k (Nat.eq_of_beq_eq_true h))] at hsat
  unfold MRun
  rw [(hr β).2 a w hsl]
  refine ⟨rfl,(hc β w fp0 hbor hsat).mono fun e w' ⟨x,he,_,hk,fp,hn,hs',hf⟩=>?_⟩
  obtain ⟨v,hv⟩:=hg x
  exact ⟨val x,he,v,by simp only [upd_at,hv],hk,fp,hn,by simp only [upd_at,hv];exact hs',hf⟩
theorem ak_callB {ι:Type} {Φ:ι → Prop} {val:ι → Value} {own:ι → List Asn} (g:Value → ι) (hg:∀ x,∃ v,g v = x) {f:FuncId} {args:(Nat → Value) → List Value} (B:List Nat)
    (hB:(B.all fun j=>waitsT l ⟨some d,op,ty,pos,af,none⟩ j && Nat.beq (tkOf tks j) 0) = true) (hn:(tks.all fun p=>!Nat.beq p.2 i) = true)
    (hr:∀ β,RunC P (SL β) ⟨some d,op,ty,pos,af,none⟩ f (args β)) (hd:Nat.blt d c.nt = true) (hc:∀ β w,Borrow c hs S B β w → Gives P f (args β) w [] Φ val own)
    (k:AnyK (tkOf tks) P c D hs l Q m (i + 1) n rest (fun β=>(d,val (g (β i))) :: SL β) (S++[⟨fun β=>val (g (β i)),fun β=>own (g (β i))⟩])) :
    AnyK (tkOf tks) P c D hs l Q m i (n + 1) (⟨some d,op,ty,pos,af,none⟩ :: rest) SL S:=by
  refine ak_step (s:=⟨fun β=>val (g (β i)),fun β=>own (g (β i))⟩) rfl hd ⟨fun β β' h=>by simp only [h i (anc_self l i)],fun β β' h=>by simp only [h i (anc_self l i)],⟨B,fun j hj=>?_,fun β a w fp0 hsl hbor _=>?_⟩,fun j hj hp=>(tkOf_no hn hj hp).elim⟩ k
  · have:=List.all_eq_true.1 hB j hj
    rw [Bool.and_eq_true] at this
    exact ⟨this.1,by simpa using this.2⟩
  rw [if_pos (by simp [Region.wanted])]
  unfold MRun
  rw [(hr β).2 a w hsl]
  refine ⟨rfl,(hc β w hbor).mono fun e w' ⟨x,he,_,hk,fp,hn,hs',hf⟩=>?_⟩
  obtain ⟨v,hv⟩:=hg x
  refine ⟨val x,he,v,by simp only [upd_at,hv],hk.mono (by simp),fp,hn,by simp only [upd_at,hv];exact hs',fun b hb=>?_⟩
  rcases hf b hb with h | h
  · cases h
  · exact .inr h
theorem ak_valB {F:(Nat → Value) → Value} (hr:∀ β,RunV P c (SL β) hs ⟨some d,op,ty,pos,af,none⟩ (F β)) (hi:Indep l i F) (hd:Nat.blt d c.nt = true) (hn:(tks.all fun p=>!Nat.beq p.2 i) = true) (k:AnyK (tkOf tks) P c D hs l Q m (i + 1) n rest (fun β=>(d,F β) :: SL β) (S++[⟨F,fun _=>[]⟩])) :
    AnyK (tkOf tks) P c D hs l Q m i (n + 1) (⟨some d,op,ty,pos,af,none⟩ :: rest) SL S:=
  ak_step (s:=⟨F,fun _=>[]⟩) rfl hd ⟨hi,fun _ _ _=>rfl,⟨[],by simp,fun β a w fp0 h1 h2 _=>by
    rw [if_pos (by simp [Region.wanted])]
    unfold MRun
    rw [(hr β).2 a w h1 h2.mem]
    exact ⟨β i,by rw [upd_self],.refl _ _,[],List.nodup_nil,rfl,by simp⟩⟩,fun j hj hp=>(tkOf_no hn hj hp).elim⟩ k
theorem ak_callD {ι:Type} {Φ:ι → Prop} {val:ι → Value} {own:(Nat → Value) → ι → List Asn} (g:Value → ι) (hg:∀ x,∃ v,g v = x) {f:FuncId} {args:(Nat → Value) → List Value} (B:List Nat)
    (hB:(B.all fun j=>waitsT l ⟨some d,op,ty,pos,af,none⟩ j && Nat.beq (tkOf tks j) 0) = true) (hn:(tks.all fun p=>!Nat.beq p.2 i) = true)
    (hio:∀ β β',(∀ k,k ≠ i → ancB l i k = true → β k = β' k) → own β = own β')
    (hr:∀ β,RunC P (SL β) ⟨some d,op,ty,pos,af,none⟩ f (args β)) (hd:Nat.blt d c.nt = true) (hc:∀ β w,Borrow c hs S B β w → Gives P f (args β) w [] Φ val (own β))
    (k:AnyK (tkOf tks) P c D hs l Q m (i + 1) n rest (fun β=>(d,val (g (β i))) :: SL β) (S++[⟨fun β=>val (g (β i)),fun β=>own β (g (β i))⟩])) :
    AnyK (tkOf tks) P c D hs l Q m i (n + 1) (⟨some d,op,ty,pos,af,none⟩ :: rest) SL S:=by
  refine ak_step (s:=⟨fun β=>val (g (β i)),fun β=>own β (g (β i))⟩) rfl hd ⟨fun β β' h=>by simp only [h i (anc_self l i)],fun β β' h=>by simp only [h i (anc_self l i),hio β β' fun k _ hk=>h k hk],⟨B,fun j hj=>?_,fun β a w fp0 hsl hbor _=>?_⟩,fun j hj hp=>(tkOf_no hn hj hp).elim⟩ k
  · have:=List.all_eq_true.1 hB j hj
    rw [Bool.and_eq_true] at this
    exact ⟨this.1,by simpa using this.2⟩
  rw [if_pos (by simp [Region.wanted])]
  unfold MRun
  rw [(hr β).2 a w hsl]
  refine ⟨rfl,(hc β w hbor).mono fun e w' ⟨x,he,_,hk,fp,hn,hs',hf⟩=>?_⟩
  obtain ⟨v,hv⟩:=hg x
  have e:own (upd β i v) = own β:=hio _ _ fun k hk _=>upd_ne hk
  refine ⟨val x,he,v,by simp only [upd_at,hv],hk.mono (by simp),fp,hn,by simp only [upd_at,hv,e];exact hs',fun b hb=>?_⟩
  rcases hf b hb with h | h
  · cases h
  · exact .inr h
end
end Go.SL
namespace Go.Proofs.A1
open Go Go.SL
theorem mem_row_slice {c:Cx} {hs hs':List Asn} {w:World} {E:TypeId} {sz n:Nat} {v:Value} {xs:List Value} (hm:Mem c hs w) (ht:Take hs (row E sz v n xs) hs'):∃ a cp,v = .slice a n cp:=by
  obtain ⟨k,fp,hnd,⟨f1,f2,rfl,h1,h2⟩,hb⟩:=hm.take ht
  obtain ⟨_,_,⟨e,h0⟩ | ⟨g,cap,cur,e,_⟩⟩:=h1
  · subst h0;exact ⟨none,0,e⟩
  · exact ⟨_,cap,e⟩
theorem int_one (l:List Int):∀ r ∈ ints l,∀ u ∈ r,u.oneCell' = true:=by
  intro r hr
  obtain ⟨x,_,rfl⟩:=List.mem_map.1 hr
  exact okc_cons rfl okc_nil
set_option maxHeartbeats 4000000 in
theorem changedX_c {sa sb:Value} {a b:List En} {w:World} (h1:Rd w sa 6 (ensL a)) (h2:Rd w sb 6 (ensL b)) (hG:Glob w) :
    Gives Tryz.prog 92 [.agg #[sa],.agg #[sb]] w [] (ChR a b) (fun x=>.tuple #[.agg #[.int .i64 x.1,.int .i64 x.2.1],.int .i64 x.2.2]) (fun _=>[]):=by
  have hone1:=Rd.one h1
  have hone2:=Rd.one h2
  refine gives_of_tr Tryz.func92 rfl rfl ?_
  (refine s_r ?_;refine tr_new (rk_box (.of rfl) rfl) rfl (fun _ _=>?_);refine tr_new (rk_box (.of rfl) rfl) rfl (fun _ _=>?_);refine tr_new (rk_alloc rfl) rfl (fun _ _=>?_);refine a_s rfl rfl ?_;refine n_t ?_;refine tr_scope ?_;refine tr_seq ?_;refine tr_seq ?_)
  rename_i b2 hb2 b3 hb3 b4 hb4
  with_reducible refine tr_draw 4 (by kernel_rfl) ?_
  (refine any_val (rk_loadB (.of rfl) (.there (.there .here)) norm_ (by rfl)) rfl ?_;refine any_call (rk_call (.of rfl) (.cons (.of rfl) .nil) inferInstance normc_) rfl (fun w' hm'=>(chk_c (Rd.keeps h1 (Mem.keeps hm')) (Glob.keeps hG (Mem.keeps hm')))) ?_;refine any_val (rk_loadB (.of rfl) (.there .here) norm_ (by rfl)) rfl ?_;refine any_call (rk_call (.of rfl) (.cons (.of rfl) .nil) inferInstance normc_) rfl (fun w' hm'=>(chk_c (Rd.keeps h2 (Mem.keeps hm')) (Glob.keeps hG (Mem.keeps hm')))) ?_)
  with_reducible refine any_end ?_
  (refine tr_new (rk_sliceLit (.cons (.of rfl) (.cons (.of rfl) .nil)) rfl rfl rfl rfl) rfl (fun _ _=>?_);refine tr_callV (rk_call (.of rfl) (.cons (.of rfl) .nil) inferInstance normc_) rfl (fun w' hm'=>(first_pB (Mem.rdBlk hm' .here rfl rfl) (IntL.cons (IntL.cons IntL.nil)))) ?_;refine a_s rfl rfl ?_;refine n_r ?_;refine m_v rfl rfl ?_;refine tr_val (rk_neq (.of rfl) (.of rfl)) rfl ?_;refine n_t ?_;refine c_d rfl (fun hcd=>?_) (fun hcd=>?_);refine s_r ?_;refine tr_val (rk_buildL .nil norm_) rfl ?_;refine m_v rfl rfl ?_;refine tr_store (.of rfl) (.of rfl) (.there .here) rfl rfl (okc_cons rfl (okc_cons rfl okc_nil)) (lenb rfl) norm_ ?_;refine a_s rfl rfl ?_;refine n_t ?_;refine r_t ?_;refine tr_ng_ret ?_;rotate_left;refine s_t ?_;refine tr_seq ?_;rotate_right)
  · have hne:chE a b ≠ 0:=hcd
    first | with_reducible apply tr_retM | with_reducible apply tr_endM
    case he=>exact endsCT rfl inferInstance rfl .here norm_ (by rfl) (by rfl)
    case hR=>
      intro w' hm'
      exact gives_end (0,0,chE a b) (.inl ⟨hne,rfl⟩) (show Takes _ [] _ from Takes.nil) hm' rfl
  have hE0:chE a b = 0:=Decidable.not_not.1 hcd
  obtain ⟨hza,hzb⟩:=chE_zero hE0
  have hsa:=Sound.of hza
  have hsb:=Sound.of hzb
  clear hcd
  generalize hQ:Exit.then _ _ = Q
  suffices hk:∀ (a7:Option Addr) (c7:Nat) (a8:Option Addr) (c8:Nat) (b7 b8:Nat),Tr _ _ [(4,.pointer (some ⟨b4,0,none⟩)),(7,.pointer (some ⟨b7,0,none⟩)),(8,.pointer (some ⟨b8,0,none⟩))] [blk b7 (.cells #[.slice a7 a.length c7] 192),blk b8 (.cells #[.slice a8 b.length c8] 192),row 191 8 (.slice a7 a.length c7) a.length (plR a a.length),row 191 8 (.slice a8 b.length c8) b.length (plR b b.length),blk b4 (.cells #[.int .i64 0,.int .i64 0] 66)] (Q .normal) by
    with_reducible refine tr_drawM 6 (by kernel_rfl) ?_
    refine am_val (fun β=>(rk_loadB (.of rfl) (.there (.there (.there .here))) norm_ (by rfl))) ind0x rfl ?_
    dsimp only [Nat.zero_add,Nat.reduceAdd]
    with_reducible apply am_call (ι:=Value) (Φ:=fun _=>True) (val:=id) (own:=fun v=>[row 191 8 v a.length (plR a a.length)]) (g:=id) (B:=[]) (args:=fun _=>[.agg #[sa]])
    case hg=>exact fun x=>⟨x,rfl⟩
    case hB=>rfl
    case hr=>exact fun β=>rk_call (.of rfl) (.cons (.of rfl) .nil) inferInstance rfl
    case hd=>rfl
    case hc=>exact fun β w' hb=>spans_c (h1.keeps hb.mem.keeps) hsa.all.ok hsa.all.few (hG.keeps hb.mem.keeps)
    dsimp only [id_eq,Nat.reduceAdd]
    refine am_val (fun β=>(rk_loadB (.of rfl) (.there (.there .here)) norm_ (by rfl))) ind0x rfl ?_
    dsimp only [Nat.reduceAdd]
    with_reducible apply am_call (ι:=Value) (Φ:=fun _=>True) (val:=id) (own:=fun v=>[row 191 8 v b.length (plR b b.length)]) (g:=id) (B:=[]) (args:=fun _=>[.agg #[sb]])
    case hg=>exact fun x=>⟨x,rfl⟩
    case hB=>rfl
    case hr=>exact fun β=>rk_call (.of rfl) (.cons (.of rfl) .nil) inferInstance rfl
    case hd=>rfl
    case hc=>exact fun β w' hb=>spans_c (h2.keeps hb.mem.keeps) hsb.all.ok hsb.all.few (hG.keeps hb.mem.keeps)
    dsimp only [id_eq,Nat.reduceAdd]
    (refine am_new (fun β=>(rk_alloc rfl)) (fun _ _ _=>rfl) rfl ?_;refine am_new (fun β=>(rk_alloc rfl)) (fun _ _ _=>rfl) rfl ?_)
    dsimp only [Nat.reduceAdd]
    refine am_end fun β=>?_
    dsimp only [resAll,List.nil_append,List.cons_append,List.append_eq,Nat.reduceAdd]
    generalize β 1 = v1
    generalize β 3 = v3
    generalize gnat (β 4) = b7
    generalize gnat (β 5) = b8
    refine tr_rowSl (E:=191) (sz:=8) (v:=v1) (by exact .here) fun a7 c7 e=>?_
    subst e
    refine tr_rowSl (E:=191) (sz:=8) (v:=v3) (by exact Take.there .here) fun a8 c8 e=>?_
    subst e
    refine left_ready (rs:=[6]) (by kernel_rfl) (by simp) (List.forall_mem_cons.2 ⟨?_,fun _ h=>absurd h List.not_mem_nil⟩)
    refine next_step rfl ?_
    (refine tr_store (.of rfl) (.of rfl) (.there (.there .here)) rfl rfl (okc_cons rfl okc_nil) (lenb rfl) norm_ ?_;refine n_t ?_)
    refine left_ready (rs:=[7]) (by kernel_rfl) (by simp) (List.forall_mem_cons.2 ⟨?_,fun _ h=>absurd h List.not_mem_nil⟩)
    refine next_step rfl ?_
    (refine tr_store (.of rfl) (.of rfl) (.there (.there (.there .here))) rfl rfl (okc_cons rfl okc_nil) (lenb rfl) norm_ ?_;refine n_t ?_)
    with_reducible refine left_done (by kernel_rfl) ?_
    exact tr_cut _ _ (by exact .cons rfl (.cons rfl (.cons rfl .nil))) (by exact .cons (.there .here) (.cons .here (.cons .here (.cons .here (.cons (.there .here) .nil))))) (hk a7 c7 a8 c8 b7 b8)
  subst hQ
  intro a7 c7 a8 c8 b7 b8
  (refine tr_then ?_;refine tr_seq ?_)
  generalize hA:tnL a a.length = A
  generalize hB:tnL b b.length = B
  have hAl:A.length ≤ 7200:=by rw [← hA];have:=hsa.tn_len _ (Nat.le_refl _);have:=hsa.all.few;omega
  have hBl:B.length ≤ 7200:=by rw [← hB];have:=hsb.tn_len _ (Nat.le_refl _);have:=hsb.all.few;omega
  have hTL:=tns_len hsa hsb
  have hTE:tnsL a b = Go.Lib.compact (srt (A++B)):=by rw [← hA,← hB];rfl
  generalize hTT:tnsL a b = T at hTE hTL
  generalize hQ:Exit.then _ _ = Q
  suffices hk:∀ (v:Value),Tr _ _ [(4,.pointer (some ⟨b4,0,none⟩)),(7,.pointer (some ⟨b7,0,none⟩)),(8,.pointer (some ⟨b8,0,none⟩)),(9,v)] [row 3 1 v T.length (intsV T),blk b7 (.cells #[.slice a7 a.length c7] 192),blk b8 (.cells #[.slice a8 b.length c8] 192),row 191 8 (.slice a7 a.length c7) a.length (plR a a.length),row 191 8 (.slice a8 b.length c8) b.length (plR b b.length),blk b4 (.cells #[.int .i64 0,.int .i64 0] 66)] (Q .normal) by
    with_reducible refine tr_drawK 9 (tkOf [(1,4),(6,7)]) (by kernel_rfl) ?_
    refine ak_valB (fun β=>(rk_load1 (.of rfl) (At.lit .here rfl))) ind0x rfl rfl ?_
    with_reducible apply ak_callB (ι:=Value) (Φ:=fun _=>True) (val:=id) (own:=fun v=>[row 3 1 v A.length (intsV A)]) (g:=id) (B:=[]) (args:=fun _=>[.slice a7 a.length c7])
    case hg=>exact fun x=>⟨x,rfl⟩
    case hB=>rfl
    case hr=>exact fun β=>rk_call (.of rfl) (.cons (.of rfl) .nil) inferInstance rfl
    case hd=>rfl
    case hn=>rfl
    case hc=>
      intro β w' hb
      have:=turns_c (rdPl (v:=.slice a7 a.length c7) hb.mem (by exact Take.there (.there .here))) hsa
      rwa [hA] at this
    dsimp only [id_eq,Nat.reduceAdd]
    refine ak_valB (fun β=>(rk_load1 (.of rfl) (At.lit (.there .here) rfl))) ind0x rfl rfl ?_
    dsimp only [Nat.reduceAdd]
    with_reducible apply ak_callB (ι:=Value) (Φ:=fun _=>True) (val:=id) (own:=fun v=>[row 3 1 v B.length (intsV B)]) (g:=id) (B:=[]) (args:=fun _=>[.slice a8 b.length c8])
    case hg=>exact fun x=>⟨x,rfl⟩
    case hB=>rfl
    case hr=>exact fun β=>rk_call (.of rfl) (.cons (.of rfl) .nil) inferInstance rfl
    case hd=>rfl
    case hn=>rfl
    case hc=>
      intro β w' hb
      have:=turns_c (rdPl (v:=.slice a8 b.length c8) hb.mem (by exact Take.there (.there (.there .here)))) hsb
      rwa [hB] at this
    dsimp only [id_eq,Nat.reduceAdd]
    with_reducible apply ak_append (jx:=1) (n0:=A.length) (xs:=intsV A) (news:=ints B) (Vx:=fun β=>β 1) (Vy:=fun β=>β 3) (Ax:=fun β=>[row 3 1 (β 1) A.length (intsV A)]) (B:=[3])
    case hB=>kernel_rfl
    case hS=>rfl
    case hrow=>exact fun β w' fp ⟨f1,f2,e,h,h0⟩=>by obtain rfl:f2 = []:=h0;rw [e,List.append_nil];exact h
    case htk=>exact tkOf_only rfl rfl
    case hti=>rfl
    case h0=>rfl
    case hwx=>kernel_rfl
    case hx=>exact fun β=>.of rfl
    case hy=>exact fun β=>.of rfl
    case hsrc=>
      intro β w' hb
      have m3:=hb.at 3 (by simp) (s:=⟨fun β=>β 3,fun β=>[row 3 1 (β 3) B.length (intsV B)]⟩) (by kernel_rfl)
      dsimp only [List.cons_append,List.nil_append] at m3
      exact rdIntsV m3 (by exact .here) rfl
    case h1=>exact int_one B
    case hz=>rfl
    case hsz=>rfl
    case hb0=>rfl
    case hb=>rw [ints_length];omega
    case hd=>rfl
    rw [← intsV_flat,← intsV_app,ints_length,← List.length_append]
    dsimp only [Nat.reduceAdd]
    with_reducible apply ak_callD (ι:=Nat) (Φ:=fun _=>True) (val:=fun x=>.func (.func 205) #[] #[.pointer (some ⟨x,0,none⟩)]) (own:=fun β x=>[blk x (.cells #[β 4] 44 (0,0))]) (g:=gnat) (B:=[4]) (args:=fun β=>[β 4])
    case hg=>exact fun x=>⟨_,gnat_of x⟩
    case hB=>kernel_rfl
    case hn=>rfl
    case hio=>exact fun β β' h=>by simp only [h 4 (by decide) (by kernel_rfl)]
    case hr=>exact fun β=>rk_call (.of rfl) (.cons (.of rfl) .nil) inferInstance rfl
    case hd=>rfl
    case hc=>
      intro β w' hb
      have m4:=hb.at 4 (by simp) (s:=⟨fun β=>β 4,fun β=>[row 3 1 (β 4) (A++B).length (intsV (A++B))]⟩) (by kernel_rfl)
      dsimp only [List.cons_append,List.nil_append] at m4
      obtain ⟨q1,q2,q3⟩:=mem_row_slice (v:=β 4) m4 (by exact .here)
      rw [q3]
      exact values_c _ _ _ _
    dsimp only [Nat.reduceAdd]
    with_reducible apply ak_callB (ι:=Value) (Φ:=fun _=>True) (val:=id) (own:=fun v=>[row 3 1 v (A++B).length (intsV (srt (A++B)))]) (g:=id) (B:=[5,4]) (args:=fun β=>[.func (.func 205) #[] #[.pointer (some ⟨gnat (β 5),0,none⟩)]])
    case hg=>exact fun x=>⟨x,rfl⟩
    case hB=>kernel_rfl
    case hn=>rfl
    case hr=>exact fun β=>rk_call (.of rfl) (.cons (.of rfl) .nil) inferInstance rfl
    case hd=>rfl
    case hc=>
      intro β w' hb
      have m4:=hb.at 4 (by simp) (s:=⟨fun β=>β 4,fun β=>[row 3 1 (β 4) (A++B).length (intsV (A++B))]⟩) (by kernel_rfl)
      have m5:=hb.at 5 (by simp) (s:=⟨fun β=>.func (.func 205) #[] #[.pointer (some ⟨gnat (β 5),0,none⟩)],fun β=>[blk (gnat (β 5)) (.cells #[β 4] 44 (0,0))]⟩) (by kernel_rfl)
      dsimp only [List.cons_append,List.nil_append] at m4 m5
      have hcb:w'.cell? ⟨gnat (β 5),0,none⟩ = some (β 4):=by
        have hb:=m5.blk (b:=gnat (β 5)) (by exact .here)
        rw [cell_of_block hb];rfl
      exact sorted_c hcb (rdIntsV m4 (by exact .here) rfl) (by rw [List.length_append];omega)
    dsimp only [id_eq,Nat.reduceAdd]
    with_reducible apply ak_callT (jx:=6) (ι:=Value) (Φ:=fun _=>True) (val:=id) (own:=fun v=>[row 3 1 v T.length (intsV T)]) (g:=id) (B:=[]) (args:=fun β=>[β 6]) (Vx:=fun β=>β 6) (Ax:=fun β=>[row 3 1 (β 6) (A++B).length (intsV (srt (A++B)))])
    case hg=>exact fun x=>⟨x,rfl⟩
    case hB=>rfl
    case hS=>rfl
    case htk=>exact tkOf_only rfl rfl
    case hti=>rfl
    case h0=>rfl
    case hwx=>kernel_rfl
    case hr=>exact fun β=>rk_call (.of rfl) (.cons (.of rfl) .nil) inferInstance rfl
    case hd=>rfl
    case hc=>
      intro β w' fp hb hsat
      rw [hTE]
      exact compact_c (srt_len _).symm (by rw [List.length_append];omega) hsat
    dsimp only [id_eq,Nat.reduceAdd]
    refine ak_valB (F:=fun β=>β 7) (fun β=>rk_assign (.of rfl)) (fun β β' h=>by simp only [h 7 (by kernel_rfl)]) rfl rfl ?_
    refine ak_end fun β=>?_
    change Tr _ _ _ [row 3 1 (β 3) B.length (intsV B),row 3 1 (β 4) (A++B).length (intsV (A++B)),blk (gnat (β 5)) (.cells #[β 4] 44),row 3 1 (β 7) T.length (intsV T),blk b7 (.cells #[.slice a7 a.length c7] 192),blk b8 (.cells #[.slice a8 b.length c8] 192),row 191 8 (.slice a7 a.length c7) a.length (plR a a.length),row 191 8 (.slice a8 b.length c8) b.length (plR b b.length),blk b4 (.cells #[.int .i64 0,.int .i64 0] 66)] _
    generalize β 3 = v3
    generalize β 4 = v4
    generalize β 7 = v7
    generalize gnat (β 5) = b5
    with_reducible refine left_done (by kernel_rfl) ?_
    exact tr_cut _ _ (by exact .cons rfl (.cons rfl (.cons rfl (.cons rfl .nil)))) (by exact .cons (.there (.there (.there .here))) (.cons (.there (.there (.there .here))) (.cons (.there (.there (.there .here))) (.cons (.there (.there (.there .here))) (.cons (.there (.there (.there .here))) (.cons (.there (.there (.there .here))) .nil)))))) (hk v7)
  subst hQ
  intro v
  refine tr_rowSl (E:=3) (sz:=1) (v:=v) (by exact .here) fun aT cT e=>?_
  subst e
  (refine tr_then ?_;refine s_r ?_;refine tr_val (rk_makeFunc' .nil (.cons (.of rfl) (.cons (.of rfl) .nil))) rfl ?_;refine a_s rfl rfl ?_;refine n_r ?_;refine m_v rfl rfl ?_;refine m_v rfl rfl ?_)
  have hDf:∀ (n:Int) (hs:List Asn) w',Mem ⟨w,[],Tryz.f92.ntmps⟩ hs w' → (∃ r,Take hs (blk b7 (.cells #[.slice a7 a.length c7] 192)) r) → (∃ r,Take hs (blk b8 (.cells #[.slice a8 b.length c8] 192)) r) → (∃ r,Take hs (row 191 8 (.slice a7 a.length c7) a.length (plR a a.length)) r) → (∃ r,Take hs (row 191 8 (.slice a8 b.length c8) b.length (plR b b.length)) r) → GivesV Tryz.prog 168 [.int .i64 n,.pointer (some ⟨b7,0,none⟩),.pointer (some ⟨b8,0,none⟩)] w' (.bool (dfB a b n)):=fun n hs w' hm ⟨_,t7⟩ ⟨_,t8⟩ ⟨_,r7⟩ ⟨_,r8⟩=>
    differs_c (by rw [cell_of_block (hm.blk t7)];rfl) (by rw [cell_of_block (hm.blk t8)];rfl) (rdPl hm r7) (rdPl hm r8) hsa hsb
  with_reducible apply tr_callV
  case hr=>exact rk_call (.of rfl) (.cons (.of rfl) (.cons (.of rfl) .nil)) inferInstance normc_
  case hd=>rfl
  case hc=>
    intro w' hm'
    refine idxI_c (f:=168) (l:=T) (D:=dfB a b) (first:=[]) (cap:=[.pointer (some ⟨b7,0,none⟩),.pointer (some ⟨b8,0,none⟩)]) (rdIntsV hm' (by exact .here) rfl) fun x _ w2 hk2=>?_
    exact hDf x _ w2 (hm'.keepsOn hk2) ⟨_,by exact Take.there .here⟩ ⟨_,by exact Take.there (.there .here)⟩ ⟨_,by exact Take.there (.there (.there .here))⟩ ⟨_,by exact Take.there (.there (.there (.there .here)))⟩
  have hTO:=turns_ok hsa hsb
  have hTL2:=fun k (hk:k < (tnsL a b).length)=>tns_last hsa hsb hk
  have hTI:=fun n (hn:n ∈ tnsL a b)=>tns_in hsa hsb hn
  rw [hTT] at hTO hTI
  rcases idxD_cases (dfB a b) T with ⟨e,hno⟩ | ⟨k,hkl,e,hk1,hk0⟩
  · rw [e]
    (refine a_s rfl rfl ?_;refine n_t ?_;refine tr_seq ?_;refine s_r ?_;refine m_v rfl rfl ?_;refine tr_val (rk_lss (.of rfl) (.of rfl)) rfl ?_;refine n_t ?_;refine c_d rfl (fun hcd=>?_) (fun _=>by omega);refine s_r ?_;refine tr_val (rk_buildL .nil norm_) rfl ?_;refine tr_store (.of rfl) (.of rfl) (.there (.there (.there (.there (.there .here))))) rfl rfl (okc_cons rfl (okc_cons rfl okc_nil)) (lenb rfl) norm_ ?_;refine a_s rfl rfl ?_;refine n_t ?_;refine r_t ?_;refine tr_ng_ret ?_)
    first | with_reducible apply tr_retM | with_reducible apply tr_endM
    case he=>exact endsCT rfl inferInstance rfl .here norm_ (by rfl) (by rfl)
    case hR=>
      intro w' hm'
      exact gives_end (0,0,7) (.inr ⟨hE0,.inr ⟨rfl,hTO.none hno⟩⟩) (show Takes _ [] _ from Takes.nil) hm' rfl
  rw [e]
  refine tr_rowOpen (E:=3) (sz:=1) (by exact .here) (by omega) fun gT cT2 curT e2 hkT hxT hzT hlT=>?_
  obtain ⟨rfl,-,rfl⟩:=Value.slice.inj e2
  (refine a_s rfl rfl ?_;refine n_t ?_;refine tr_seq ?_;refine s_r ?_;refine m_v rfl rfl ?_;refine tr_val (rk_lss (.of rfl) (.of rfl)) rfl ?_;refine n_t ?_;refine c_d rfl (fun _=>by omega) (fun hcd=>?_);refine s_t ?_;refine s_r ?_;refine m_v rfl rfl ?_;refine a_s rfl rfl ?_;refine n_t ?_;refine tr_seq ?_;refine tr_label ?_;refine tr_then ?_;refine tr_seq ?_;refine s_r ?_;refine m_v rfl rfl ?_;refine tr_val (rk_len_slice (.of rfl)) rfl ?_;refine tr_val (rk_sub (.of rfl) (.of rfl) (ini (by omega))) rfl ?_;refine a_s rfl rfl ?_;refine n_t ?_;refine tr_block ?_)
  clear hcd
  have hTin:∀ j (hj:j < T.length),0 ≤ T[j] ∧ T[j] ≤ 10000000:=fun j hj=>hTI _ (List.getElem_mem hj)
  have hcl:∀ j (hj:j < T.length),(intsV T++curT)[j * 1]? = some (.int .i64 T[j]):=fun j hj=>by
    rw [Nat.mul_one,List.getElem?_append_left (by rw [intsV_length];exact hj)]
    simp [intsV,hj]
  refine tr_for (ι:=Nat) (fun i=>k ≤ i ∧ i < T.length ∧ ∀ j (hj:j < T.length),i < j → dfB a b T[j] = false) (fun i=>[(13,.int .i64 (i:Int)),(11,.int .i64 (k:Int)),(9,.slice (some ⟨gT,0,none⟩) T.length cT),(10,.func (.func 168) #[] #[.pointer (some ⟨b7,0,none⟩),.pointer (some ⟨b8,0,none⟩)]),(4,.pointer (some ⟨b4,0,none⟩))])
    (fun _=>[blk gT (.cells (intsV T++curT).toArray 3),blk b7 (.cells #[.slice a7 a.length c7] 192),blk b8 (.cells #[.slice a8 b.length c8] 192),row 191 8 (.slice a7 a.length c7) a.length (plR a a.length),row 191 8 (.slice a8 b.length c8) b.length (plR b b.length),blk b4 (.cells #[.int .i64 0,.int .i64 0] 66)]) (fun i=>i) ?_ ?_
  · have hc1:((T.length:Int) - 1) = ((T.length - 1:Nat):Int):=by omega
    rw [hc1]
    apply tr_start (T.length - 1:Nat) ⟨by omega,by omega,fun j hj h=>by omega⟩
    case hs1=>exact .cons rfl (.cons rfl (.cons rfl (.cons rfl (.cons rfl .nil))))
    case ht=>exact .cons .here (.cons .here (.cons .here (.cons .here (.cons .here (.cons .here .nil)))))
  rintro i ⟨hki,hil,hi0⟩
  have hci:=hcl i hil
  have hli:dfB a b T[i] = true → i + 1 < T.length:=fun h=>by
    apply Classical.byContradiction
    intro hn
    have:=hTL2 i (by rw [hTT];exact hil) (by rw [hTT];omega)
    simp only [hTT] at this
    rw [h] at this;cases this
  generalize hx:T[i] = x at hci hli
  (refine tr_seq ?_;refine s_r ?_;refine m_v rfl rfl ?_;refine m_v rfl rfl ?_;refine tr_val (rk_geq (.of rfl) (.of rfl)) rfl ?_;refine n_t ?_;refine c_d rfl (fun hcd=>?_) (fun _=>by omega);refine s_t ?_;refine tr_seq ?_;refine tr_block ?_;refine s_r ?_;refine m_v rfl rfl ?_;refine m_v rfl rfl ?_;refine m_v rfl rfl ?_;refine tr_val (rk_indexAddr (.of rfl) (.of rfl) rfl (by omega) (by omega) norm1_) rfl ?_;refine tr_val (rk_load1 (.of rfl) (At.blkL .here hci)) rfl ?_)
  with_reducible apply tr_callV
  case hr=>exact rk_call (.of rfl) (.cons (.of rfl) .nil) inferInstance normc_
  case hd=>rfl
  case hc=>
    intro w' hm'
    exact hDf x _ w' hm' ⟨_,by exact Take.there .here⟩ ⟨_,by exact Take.there (.there .here)⟩ ⟨_,by exact Take.there (.there (.there .here))⟩ ⟨_,by exact Take.there (.there (.there (.there .here)))⟩
  cases hD:dfB a b x with
  | false =>
    (refine n_t ?_;refine tr_cond_f (.of rfl) ?_;refine tr_skip ?_;refine tr_blk_normal ?_;refine tr_then ?_;refine tr_region ?_;refine m_v rfl rfl ?_;refine tr_val (rk_sub (.of rfl) (.of rfl) (ini (by omega))) rfl ?_;refine a_s rfl rfl ?_;refine n_t ?_)
    have hne:i ≠ k:=fun e=>by
      subst e
      rw [hx,hD] at hk1;cases hk1
    have hc2:((i:Int) - 1) = ((i - 1:Nat):Int):=by omega
    rw [hc2]
    apply tr_next (i - 1) ⟨by omega,by omega,fun j hj h=>by
      by_cases e:j = i
      · subst e;rw [hx];exact hD
      · exact hi0 j hj (by omega)⟩ (by omega)
    case hs1=>exact .cons rfl (.cons rfl (.cons rfl (.cons rfl (.cons rfl .nil))))
    case ht=>exact .cons .here (.cons .here (.cons .here (.cons .here (.cons .here (.cons .here .nil)))))
  | true =>
    have hl1:=hli hD
    have hck:=hcl k hkl
    have hcj:(intsV T++curT)[((i:Int) + 1).toNat * 1]? = some (.int .i64 T[i + 1]):=by
      rw [show ((i:Int) + 1).toNat = i + 1 by omega];exact hcl (i + 1) hl1
    have hsp:=hTO.span (i:=k) (j:=i) hl1 hki hk1 (fun q hq=>hk0 q hq) (by rw [hx];exact hD) (fun q hq h=>hi0 q hq h)
    have hb1:=hTin k hkl
    have hb2:=hTin (i + 1) hl1
    generalize T[i + 1] = y at hcj hsp hb2
    generalize T[k] = z at hck hsp hb1
    (refine n_t ?_;refine tr_cond_t (.of rfl) ?_;refine s_r ?_;refine m_v rfl rfl ?_;refine tr_val (rk_add (.of rfl) (.of rfl) (ini (by omega))) rfl ?_;refine a_s rfl rfl ?_;refine n_t ?_;refine tr_exit ?_;refine tr_blk_exit_ne rfl ?_;refine tr_then_exit ?_;refine tr_then_exit ?_;refine tr_blk_exit ?_;refine tr_then ?_;refine tr_seq ?_)
    with_reducible refine tr_draw 9 (by kernel_rfl) ?_
    (refine a_m rfl rfl ?_;refine a_m rfl rfl ?_;refine any_val (rk_indexAddr (.of rfl) (.of rfl) rfl (by omega) (by omega) norm1_) rfl ?_;refine any_val (rk_load1 (.of rfl) (At.blkL .here hck)) rfl ?_;refine a_m rfl rfl ?_;refine a_m rfl rfl ?_;refine any_val (rk_indexAddr (.of rfl) (.of rfl) rfl (by omega) (by omega) norm1_) rfl ?_;refine any_val (rk_load1 (.of rfl) (At.blkL .here hcj)) rfl ?_;refine any_val (rk_buildL (.cons (.of rfl) (.cons (.of rfl) .nil)) norm_) rfl ?_)
    with_reducible refine any_end ?_
    (refine tr_store (.of rfl) (.of rfl) (.there (.there (.there (.there (.there .here))))) rfl rfl (okc_cons rfl (okc_cons rfl okc_nil)) (lenb rfl) norm_ ?_;refine a_s rfl rfl ?_;refine n_t ?_;refine tr_ret ?_;refine tr_ng_ret ?_)
    first | with_reducible apply tr_retM | with_reducible apply tr_endM
    case he=>exact endsCT rfl inferInstance rfl .here norm_ (by rfl) (by rfl)
    case hR=>
      intro w' hm'
      exact gives_end (z,y,0) (.inr ⟨hE0,.inl ⟨z,y,rfl,hsp⟩⟩) (show Takes _ [] _ from Takes.nil) hm' rfl
end Go.Proofs.A1
namespace Go.Proofs.A1
open Go Go.SL
def enE (es:List En):Int:=if es.length = 0 then 0 else to es (es.length - 1)
theorem end_c {sv:Value} {es:List En} {w:World} (h1:Rd w sv 6 (ensL es)) (hs:Sound es):GivesV Tryz.prog 163 [.agg #[sv]] w (.int .i64 (enE es)):=by
  have hone:=Rd.one h1
  have hfew:=hs.all.few
  refine givesV_of_tr Tryz.func163 rfl rfl ?_
  (refine s_r ?_;refine tr_new (rk_box (.of rfl) rfl) rfl (fun _ _=>?_);refine a_s rfl rfl ?_;refine n_r ?_;refine tr_val (rk_loadB (.of rfl) .here norm_ (by rfl)) rfl ?_)
  with_reducible apply tr_call
  case hr=>exact rk_call (.of rfl) (.cons (.of rfl) .nil) inferInstance normc_
  case hd=>rfl
  case ht=>exact Takes.nil
  case hc=>
    intro w1 fp hm1 _ hs1
    obtain rfl:fp = []:=hs1
    exact spansQ_c (h1.keeps hm1.keeps) hs
  intro v _
  dsimp only [id_eq,List.cons_append,List.nil_append]
  (refine a_s rfl rfl ?_;refine n_t ?_;refine tr_seq ?_;refine s_r ?_;refine m_v rfl rfl ?_)
  refine tr_rowSl (E:=66) (sz:=2) (by exact .here) fun va vc e=>?_
  subst e
  by_cases hn0:0 < es.length
  · refine tr_rowOpen (E:=66) (sz:=2) (by exact .here) hn0 fun g cap' cur e hcap' hmx' hsz' hl'=>?_
    obtain ⟨rfl,-,rfl⟩:=Value.slice.inj e
    have hk1:((es.length:Int) - 1).toNat = es.length - 1:=by omega
    have q1:(spV es es.length++cur)[((es.length:Int) - 1).toNat * 2 + 1]? = some (.int .i64 (to es (es.length - 1))):=by rw [hk1];exact spV_at (j:=1) (by omega) cur (by omega)
    (refine tr_val (rk_len_slice (.of rfl)) rfl ?_;refine tr_val (rk_eql (.of rfl) (.of rfl)) rfl ?_;refine n_t ?_;refine c_d rfl (fun _=>by omega) (fun hcd=>?_);refine s_t ?_;refine s_r ?_;refine m_v rfl rfl ?_;refine m_v rfl rfl ?_;refine tr_val (rk_len_slice (.of rfl)) rfl ?_;refine tr_val (rk_sub (.of rfl) (.of rfl) (ini (by omega))) rfl ?_;refine tr_val (rk_indexAddr (.of rfl) (.of rfl) rfl (by omega) (by omega) norm1_) rfl ?_;refine f_a rfl rfl norm0_ ?_;refine tr_val (rk_load1 (.of rfl) (At.blkL .here q1)) rfl ?_;refine a_s rfl rfl ?_;refine n_t ?_;refine tr_ret ?_;refine tr_retE rfl (ends1 rfl rfl) ?_)
    rw [enE,if_neg (by omega)]
  · have e0:es.length = 0:=by omega
    rw [e0]
    (refine tr_val (rk_len_slice (.of rfl)) rfl ?_;refine tr_val (rk_eql (.of rfl) (.of rfl)) rfl ?_;refine n_t ?_;refine c_d rfl (fun hcd=>?_) (fun _=>by omega);refine s_r ?_;refine a_s rfl rfl ?_;refine n_t ?_;refine r_t ?_;refine tr_retE rfl (ends1 rfl rfl) ?_)
    rw [enE,if_pos e0]
end Go.Proofs.A1
namespace Go.Proofs.A1
open Go Go.SL
end Go.Proofs.A1
namespace Go.Proofs.A1
open Go Go.SL
theorem ChR.same {a b:List En} {x y:Int × Int × Int} (hx:ChR a b x) (hy:ChR a b y):x = y:=by
  rcases hx with ⟨h1,rfl⟩ | ⟨h1,h2⟩ <;> rcases hy with ⟨h3,rfl⟩ | ⟨h3,h4⟩
  · rfl
  · exact absurd h3 h1
  · exact absurd h1 h3
  · exact h2.same h4
open Classical in
noncomputable def chX (a b:List En):Int × Int × Int:=if h:∃ x,ChR a b x then Classical.choose h else (0,0,0)
theorem chX_eq {a b:List En} {x:Int × Int × Int} (h:ChR a b x):chX a b = x:=by
  have he:∃ x,ChR a b x:=⟨x,h⟩
  unfold chX
  rw [dif_pos he]
  exact (Classical.choose_spec he).same h
theorem changedV_c {sa sb:Value} {a b:List En} {w:World} (h1:Rd w sa 6 (ensL a)) (h2:Rd w sb 6 (ensL b)) (hG:Glob w) :
    GivesV Tryz.prog 92 [.agg #[sa],.agg #[sb]] w (.tuple #[.agg #[.int .i64 (chX a b).1,.int .i64 (chX a b).2.1],.int .i64 (chX a b).2.2]):=
  Calls.mono (changedX_c h1 h2 hG) fun e w' ⟨x,he,hp,hk,_⟩=>⟨by rw [he,chX_eq hp],hk⟩
def briefB (es:List En):Bool:=shortB es && decide (chkF es = 0) && decide (enE es ≤ 1000)
theorem and_r {a:Bool} {p:Prop} [Decidable p] (h:((a && decide p) == true) = true):p:=by
  have:=eq_of_beq h
  rw [Bool.and_eq_true,decide_eq_true_eq] at this
  exact this.2
theorem brief_c {sv:Value} {es:List En} {w:World} (h1:Rd w sv 6 (ensL es)):GivesV Tryz.prog 90 [.agg #[sv]] w (.bool (briefB es)):=by
  have hone:=Rd.one h1
  refine givesV_of_tr Tryz.func90 rfl rfl ?_
  (refine s_r ?_;refine tr_new (rk_box (.of rfl) rfl) rfl (fun _ _=>?_);refine a_s rfl rfl ?_;refine n_r ?_;refine tr_val (rk_loadB (.of rfl) .here norm_ (by rfl)) rfl ?_;refine tr_callV (rk_call (.of rfl) (.cons (.of rfl) .nil) inferInstance normc_) rfl (fun w' hm'=>(short_c (Rd.keeps h1 (Mem.keeps hm')))) ?_;refine m_v rfl rfl ?_;refine tr_vG1 rfl rfl inferInstance (fun hg hgp=>(rk_loadB (.of rfl) .here norm_ (by rfl))) rfl ?_;refine tr_callVG1 rfl rfl (fun hg=>(rk_call (.of rfl) (.cons (.ofg hg rfl) .nil) inferInstance normc_)) rfl (fun hg w' hm'=>(chkQ_c (Rd.keeps h1 (Mem.keeps hm')))) ?_;refine tr_vG1 rfl rfl inferInstance (fun hg hgp=>(rk_eql (.ofg hg rfl) (.of rfl))) rfl ?_;refine tr_val (rk_pick_and (.of rfl) rfl) rfl ?_;refine m_v rfl rfl ?_;refine tr_vG1 rfl rfl inferInstance (fun hg hgp=>(rk_loadB (.of rfl) .here norm_ (by rfl))) rfl ?_;refine tr_callVG1 rfl rfl (fun hg=>(rk_call (.of rfl) (.cons (.ofg hg rfl) .nil) inferInstance normc_)) rfl (fun hg w' hm'=>(end_c (Rd.keeps h1 (Mem.keeps hm')) (Sound.of (and_r hg)))) ?_;refine tr_vG1 rfl rfl inferInstance (fun hg hgp=>(rk_leq (.ofg hg rfl) (.of rfl))) rfl ?_;refine tr_val (rk_pick_and (.of rfl) rfl) rfl ?_;refine a_s rfl rfl ?_;refine n_t ?_;refine tr_ret ?_;refine tr_retE rfl (ends1 rfl rfl) ?_)
  rfl
end Go.Proofs.A1
namespace Go.Proofs.A1
open Go Go.SL
def natI (o:List Nat):List Int:=o.map fun (i:Nat)=>(i:Int)
theorem cfO_nat (o:List Nat):cfO (natI o) = o:=by
  unfold cfO natI
  rw [List.map_map]
  conv=>rhs;rw [← List.map_id o]
  exact List.map_congr_left fun i _=>Int.toNat_natCast i
theorem natI_length (o:List Nat):(natI o).length = o.length:=by unfold natI;rw [List.length_map]
structure FillOk (es:List En) (b:Br) (gi k:Nat) (f t:Int) (o:List Nat) (cs:List En):Prop where
  lt:k + 1 < es.length
  ft:0 ≤ f ∧ f < t ∧ t ≤ 10000000
  few:o.length ≤ b.sp.length ∧ o.length ≤ 8
  pl:plE es (gi:Int) b (natI o) = 0
  pcs:plL' es (gi:Int) b (natI o) = cs
  len:cs.length = es.length + o.length
  snd:chkF cs = 0
  bef:∀ i,i ≤ k → fr cs i = fr es i ∧ to cs i = to es i
  wth:∀ j,j < o.length → fr cs (k + 1 + j) = f + tL b.sp o j ∧ to cs (k + 1 + j) = f + tL b.sp o (j + 1) ∧ tL b.sp o j < tL b.sp o (j + 1)
  aft:∀ i,k + o.length < i → i < cs.length → fr cs i = fr es (i - o.length) ∧ to cs i = to es (i - o.length)
  le:tL b.sp o o.length ≤ b.n
  tl:∀ j,j ≤ o.length → 0 ≤ tL b.sp o j ∧ tL b.sp o j ≤ tL b.sp o o.length
  gps:((gpL cs cs.length).length:Int) = (gpL es es.length).length - if tL b.sp o o.length = b.n then 1 else 0
  rst:tL b.sp o o.length < b.n → (gpL cs cs.length)[gi]? = some (((k + o.length:Nat):Int),f + tL b.sp o o.length,t)
  ch0:o.length = 0 → chX es cs = (0,0,7)
  ch1:0 < o.length → chX es cs = (f,f + tL b.sp o o.length,0)
theorem fil_nil {es:List En} {k:Nat}:fil es [] k = es:=by
  unfold fil chg
  simp
theorem fill_ok {es:List En} {b:Br} {gi:Nat} {x:Int × Int × Int} (hz:chkF es = 0) (h8:es.length ≤ 8) (hb:brE b = 0) (hx:(gpL es es.length)[gi]? = some x) (hn:b.n = x.2.2 - x.2.1) (hnm:∀ i j,i < es.length → j < b.sp.length → (nth es i).nm ≠ (nthS b.sp j).nm) :
    ∃ k:Nat,x.1 = (k:Int) ∧ FillOk es b gi k x.2.1 x.2.2 (fillF b) (plL' es (gi:Int) b (natI (fillF b))):=by
  have hs:=Sound.of hz
  have hbo:=BrOk.of hb
  have ho:=fillF_ok hbo
  generalize fillF b = o at ho
  obtain ⟨k,hk,hg,rfl,hgi⟩:=gpL_at hx
  dsimp only at hn ⊢
  have hf:=fil_of hs hbo ho ⟨hk,hg⟩ hn
  have hz2:=fil_chk hs hbo ho ⟨hk,hg⟩ hn h8 hnm
  have hl:=plEn_length b (to es k) o o.length
  have h8o:=ho.few hbo
  have hfn:=hs.fr_nn (k:=k) (by omega)
  have hfn2:=hs.fr_nn (k:=k + 1) hk
  have hlen:=fil_len (es:=es) (l:=plEn b (to es k) o o.length) (k:=k) (by omega)
  rw [hl] at hlen
  have hgl:gi < (gpL es es.length).length:=(List.getElem?_eq_some_iff.1 hx).1
  have hpg:plGap es gi = ((k:Int),to es k,fr es (k + 1)):=by
    unfold plGap
    rw [List.getD_eq_getElem?_getD,hx];rfl
  have hpe:plEs es b (natI o) ((k:Int),to es k,fr es (k + 1)) = fil es (plEn b (to es k) o o.length) k:=by
    unfold plEs fil
    rw [cfO_nat,Int.toNat_natCast]
  have hpl:plE es (gi:Int) b (natI o) = 0:=by
    unfold plE
    rw [Int.toNat_natCast,hpg,hpe,if_neg (by rw [hz];decide)]
    have e1:pl1 es b (gi:Int) = 0:=by
      unfold pl1
      rw [firstF_zero]
      simp only [List.mem_cons,List.not_mem_nil,or_false,forall_eq_or_imp,forall_eq]
      refine ⟨?_,hb⟩
      rw [whenF_zero (by decide),Bool.or_eq_false_iff,decide_eq_false_iff_not,decide_eq_false_iff_not]
      omega
    have e2:pl2 b (natI o) ((k:Int),to es k,fr es (k + 1)) = 0:=by
      unfold pl2
      rw [firstF_zero]
      simp only [List.mem_cons,List.not_mem_nil,or_false,forall_eq_or_imp,forall_eq]
      refine ⟨?_,?_⟩
      · rw [natI,orderE_nat ho.dif h8o];exact ho.fit
      · rw [whenF_zero (by decide),decide_eq_false_iff_not]
        omega
    rw [if_neg (by rw [e1];decide),if_neg (by rw [e2];decide)]
    exact hz2
  have hcs:plL' es (gi:Int) b (natI o) = fil es (plEn b (to es k) o o.length) k:=by
    unfold plL'
    rw [if_pos hpl,Int.toNat_natCast,hpg,hpe]
  refine ⟨k,rfl,?_⟩
  rw [hcs]
  have htl:∀ j,j ≤ o.length → 0 ≤ tL b.sp o j ∧ tL b.sp o j ≤ tL b.sp o o.length:=fun j hj=>by
    have a1:=hf.lnS_le (i:=0) (j:=j) (by omega) (by omega)
    have a2:=hf.lnS_le (i:=j) (j:=o.length) (by omega) (by omega)
    rw [lnS_pl (by omega),lnS_pl (by omega)] at a1
    rw [lnS_pl (by omega),lnS_pl (by omega)] at a2
    exact ⟨a1,a2⟩
  have hgaps:=hf.gaps
  rw [hl,lnS_pl (Nat.le_refl _),← hn] at hgaps
  refine ⟨hk,⟨by omega,hg,by omega⟩,⟨ho.dif.len,h8o⟩,hpl,hcs,hlen,hz2,fun i hi=>?_,fun j hj=>?_,fun i hi hi2=>?_,ho.le,htl,?_,?_,fun h0=>?_,fun h0=>?_⟩
  · have:=hf.same.fr (k:=i) (by omega)
    exact ⟨this.1.symm,this.2.symm⟩
  · rw [hf.fr2 (by omega),hf.to2 (by omega),lnS_pl (by omega),lnS_pl (by omega)]
    refine ⟨rfl,rfl,?_⟩
    have:=(hbo.spOk _ (nthS_mem (ho.dif.lt _ (nthN_mem hj)))).ln
    have:=hbo.ln _ (nthS_mem (ho.dif.lt _ (nthN_mem hj)))
    rw [tL]
    omega
  · obtain ⟨d,rfl⟩:∃ d,i = k + 1 + (plEn b (to es k) o o.length).length + d:=⟨i - (k + 1 + o.length),by omega⟩
    rw [hf.fr3 (by omega),hf.to3 (by omega),show k + 1 + (plEn b (to es k) o o.length).length + d - o.length = k + 1 + d by omega]
    exact ⟨rfl,rfl⟩
  · rw [hlen];exact hgaps.1
  · rw [hlen,hgi];exact hgaps.2
  · have e:o = []:=List.length_eq_zero_iff.1 h0
    subst e
    have e2:plEn b (to es k) [] ([]:List Nat).length = []:=rfl
    rw [e2,fil_nil]
    refine chX_eq (.inr ⟨?_,.inr ⟨rfl,fun n=>?_⟩⟩)
    · unfold chE
      rw [hz];rfl
    · unfold dfB;simp
  · have:=hf.ch (Sound.of hz2) (by omega)
    rw [hl,lnS_pl (Nat.le_refl _)] at this
    refine chX_eq (.inr ⟨?_,.inl ⟨_,_,rfl,this⟩⟩)
    unfold chE
    rw [hz,hz2];rfl
end Go.Proofs.A1
namespace Go.Proofs.A1
open Go Go.SL
def validB (es:List En):Bool:=shortB es && decide ((es.length:Int) ≤ 8) && decide (chkF es = 0)
theorem validB_iff {es:List En} (h:validB es = true):shortB es = true ∧ es.length ≤ 8 ∧ chkF es = 0:=by
  unfold validB at h
  rw [Bool.and_eq_true,Bool.and_eq_true,decide_eq_true_eq,decide_eq_true_eq] at h
  exact ⟨h.1.1,by omega,h.2⟩
theorem valid_c {sv:Value} {es:List En} {w:World} (h1:Rd w sv 6 (ensL es)):GivesV Tryz.prog 59 [.agg #[sv]] w (.bool (validB es)):=by
  have h1':=h1
  obtain ⟨a,cap,b,o,rfl,hcap,hmax,ha,hc⟩:=h1
  rw [ensL_length] at *
  unfold maxLen at hmax
  refine givesV_of_tr Tryz.func59 rfl rfl ?_
  (refine s_r ?_;refine tr_new (rk_box (.of rfl) rfl) rfl (fun _ _=>?_);refine a_s rfl rfl ?_;refine n_r ?_;refine tr_val (rk_loadB (.of rfl) .here norm_ (by rfl)) rfl ?_;refine tr_callV (rk_call (.of rfl) (.cons (.of rfl) .nil) inferInstance normc_) rfl (fun w' hm'=>(short_c (Rd.keeps h1' (Mem.keeps hm')))) ?_;refine m_v rfl rfl ?_;refine tr_vG1 rfl rfl inferInstance (fun hg hgp=>(rk_fieldAddr (.of rfl) norm0_)) rfl ?_;refine tr_vG1 rfl rfl inferInstance (fun hg hgp=>(rk_load1 (.ofg hg rfl) (At.lit .here rfl))) rfl ?_;refine tr_vG1 rfl rfl inferInstance (fun hg hgp=>(rk_len_slice (.ofg hg rfl))) rfl ?_;refine tr_vG1 rfl rfl inferInstance (fun hg hgp=>(rk_leq (.ofg hg rfl) (.of rfl))) rfl ?_;refine tr_val (rk_pick_and (.of rfl) rfl) rfl ?_;refine m_v rfl rfl ?_;refine tr_vG1 rfl rfl inferInstance (fun hg hgp=>(rk_loadB (.of rfl) .here norm_ (by rfl))) rfl ?_;refine tr_callVG1 rfl rfl (fun hg=>(rk_call (.of rfl) (.cons (.ofg hg rfl) .nil) inferInstance normc_)) rfl (fun hg w' hm'=>(chkQ_c (Rd.keeps h1' (Mem.keeps hm')))) ?_;refine tr_vG1 rfl rfl inferInstance (fun hg hgp=>(rk_eql (.ofg hg rfl) (.of rfl))) rfl ?_;refine tr_val (rk_pick_and (.of rfl) rfl) rfl ?_;refine a_s rfl rfl ?_;refine n_t ?_;refine tr_ret ?_;refine tr_retE rfl (ends1 rfl rfl) ?_)
  rfl
def ndF (L:List (Int × Int × Int)):Nat → Int × Int
  | 0=>(0,1)
  | j + 1=>((ndF L j).1 * (L.getD j (0,1,1)).2.2 + (L.getD j (0,1,1)).2.1 * (ndF L j).2,(ndF L j).2 * (L.getD j (0,1,1)).2.2)
theorem Sound.parts {es:List En} (h:Sound es) (f:Int):(shF es f).length ≤ 2 ∧ (∀ x ∈ shF es f,1 ≤ x.2.1 ∧ x.2.1 ≤ x.2.2 ∧ x.2.2 ≤ 251) ∧ (∀ j,j ≤ (shF es f).length → 0 ≤ (ndF (shF es f) j).1 ∧ (ndF (shF es f) j).1 ≤ 1000000 ∧ 0 ≤ (ndF (shF es f) j).2 ∧ (ndF (shF es f) j).2 ≤ 1000000) ∧ (0 < (shF es f).length → (ndF (shF es f) (shF es f).length).1 = (ndF (shF es f) (shF es f).length).2):=by
  rcases h.air f with e | ⟨i,hi,hb,e⟩ | ⟨i,p,q,hi,e,hp,hq,p1,p2,p3,q1,q2,q3,hs⟩
  · rw [e]
    refine ⟨by simp,by simp,fun j hj=>?_,by simp⟩
    obtain rfl:j = 0:=by simpa using hj
    simp [ndF]
  · rw [e]
    refine ⟨by simp,by simp,fun j hj=>?_,fun _=>by simp [ndF]⟩
    have:j = 0 ∨ j = 1:=by simp at hj;omega
    rcases this with rfl | rfl <;> simp [ndF]
  · clear hp hq
    rw [e]
    have m1:=mul_bd (a:=p.1) (b:=q.2) (A:=251) (B:=251) (by omega) (by omega) (by omega) (by omega)
    have m2:=mul_bd (a:=q.1) (b:=p.2) (A:=251) (B:=251) (by omega) (by omega) (by omega) (by omega)
    have m3:=mul_bd (a:=p.2) (b:=q.2) (A:=251) (B:=251) (by omega) (by omega) (by omega) (by omega)
    have e1:ndF [((i:Int),p),(((i + 1:Nat):Int),q)] 1 = (p.1,p.2):=by simp [ndF]
    have e2:ndF [((i:Int),p),(((i + 1:Nat):Int),q)] 2 = (p.1 * q.2 + q.1 * p.2,p.2 * q.2):=by
      rw [ndF,e1];rfl
    refine ⟨by simp,?_,fun j hj=>?_,fun _=>?_⟩
    · intro x hx
      simp only [List.mem_cons,List.not_mem_nil,or_false] at hx
      rcases hx with rfl | rfl
      · exact ⟨p1,p2,p3⟩
      · exact ⟨q1,q2,q3⟩
    · have:j = 0 ∨ j = 1 ∨ j = 2:=by simp at hj;omega
      rcases this with rfl | rfl | rfl
      · simp [ndF]
      · rw [e1];dsimp only;omega
      · rw [e2];dsimp only;omega
    · show (ndF _ 2).1 = (ndF _ 2).2
      rw [e2];exact hs
end Go.Proofs.A1
