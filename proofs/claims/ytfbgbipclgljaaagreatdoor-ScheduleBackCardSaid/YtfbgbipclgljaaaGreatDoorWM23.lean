/- Parts of the proof: V5 GkSeqO V6. -/
import Derived.Test.YtfbgbipclgljaaaGreatDoorWM22
import Derived.Test.YtfbgbipclgljaaaGreatDoorWM09
import Derived.Test.YtfbgbipclgljaaaGreatDoorWM06
import Derived.Test.YtfbgbipclgljaaaGreatDoorWM05
set_option linter.unusedSectionVars false
set_option linter.unusedVariables false
set_option linter.unusedSimpArgs false
namespace Go.Proofs.A1
open Go Go.SL
def chS (ws:List (List UInt8)):Nat → List UInt8 × Option Nat × Bool
  | 0=>wdR ws (some 0)
  | i + 1=>wdR ws (chS ws i).2.1
def wrW (ws:List (List UInt8)):Bool:=
  ((((((((((false || (chS ws 0).2.2) || (chS ws 1).2.2) || (chS ws 2).2.2) || (chS ws 3).2.2) || (chS ws 4).2.2) || !numB (chS ws 4).1) || (chS ws 5).2.2) || !numB (chS ws 5).1) || (chS ws 6).2.2) || !numB (chS ws 6).1)
def parX (ws:List (List UInt8)):En:=⟨bsL (chS ws 1).1,bsL (chS ws 2).1,bsL (chS ws 3).1,intV (chS ws 4).1,intV (chS ws 5).1,intV (chS ws 6).1⟩
theorem wdR_le {ws:List (List UInt8)} {st:Option Nat} {k:Nat} (h:(wdR ws st).2.1 = some k):k ≤ ws.length:=by
  unfold wdR at h
  split at h
  · cases h
  · split at h
    · rename_i hc
      cases h
      exact hc.1
    · cases h
theorem chS_le {ws:List (List UInt8)}:∀ {i k:Nat},(chS ws i).2.1 = some k → k ≤ ws.length
  | 0,k,h=>wdR_le h
  | i + 1,k,h=>wdR_le h
theorem wdR_ok {ws:List (List UInt8)} {k:Nat} (h1:k < ws.length) (h2:wd ws k ≠ []):wdR ws (some k) = (wd ws k,some (k + 1),false):=if_pos ⟨h1,h2⟩
theorem wdR_back {ws:List (List UInt8)} {st:Option Nat} (h:(wdR ws st).2.2 = false):∃ k,st = some k ∧ k < ws.length ∧ wd ws k ≠ []:=by
  unfold wdR at h
  split at h
  · cases h
  · rename_i k
    split at h
    · rename_i hc
      exact ⟨k,rfl,hc.1,hc.2⟩
    · cases h
theorem chS_ok {ws:List (List UInt8)}:∀ {i:Nat},(∀ j,j ≤ i → j < ws.length ∧ wd ws j ≠ []) → chS ws i = (wd ws i,some (i + 1),false)
  | 0,h=>wdR_ok (h 0 (Nat.le_refl _)).1 (h 0 (Nat.le_refl _)).2
  | i + 1, h => by
    rw [chS,chS_ok (i:=i) fun j hj=>h j (by omega)]
    exact wdR_ok (h (i + 1) (Nat.le_refl _)).1 (h (i + 1) (Nat.le_refl _)).2
theorem chS_back {ws:List (List UInt8)}:∀ {i:Nat},(∀ j,j ≤ i → (chS ws j).2.2 = false) → ∀ j,j ≤ i → j < ws.length ∧ wd ws j ≠ []
  | 0, h, j, hj => by
    obtain rfl:j = 0:=by omega
    obtain ⟨k,e,a,b⟩:=wdR_back (h 0 (Nat.le_refl _))
    cases e
    exact ⟨a,b⟩
  | i + 1, h, j, hj => by
    have ih:=chS_back (i:=i) fun j hj=>h j (by omega)
    by_cases e:j = i + 1
    · subst e
      have h1:=h (i + 1) (Nat.le_refl _)
      rw [chS,chS_ok ih] at h1
      obtain ⟨k,e,a,b⟩:=wdR_back h1
      cases e
      exact ⟨a,b⟩
    · exact ih j (by omega)
theorem wrW_false {ws:List (List UInt8)}:wrW ws = false ↔ (∀ j,j ≤ 6 → (chS ws j).2.2 = false) ∧ numB (chS ws 4).1 = true ∧ numB (chS ws 5).1 = true ∧ numB (chS ws 6).1 = true:=by
  unfold wrW
  simp only [Bool.or_eq_false_iff,Bool.not_eq_false',true_and]
  constructor
  · rintro ⟨⟨⟨⟨⟨⟨⟨⟨⟨a0,a1⟩,a2⟩,a3⟩,a4⟩,b4⟩,a5⟩,b5⟩,a6⟩,b6⟩
    refine ⟨fun j hj=>?_,b4,b5,b6⟩
    match j,hj with
    | 0,_=>exact a0
    | 1,_=>exact a1
    | 2,_=>exact a2
    | 3,_=>exact a3
    | 4,_=>exact a4
    | 5,_=>exact a5
    | 6,_=>exact a6
    | j + 7,hj=>omega
  · rintro ⟨h,b4,b5,b6⟩
    exact ⟨⟨⟨⟨⟨⟨⟨⟨⟨h 0 (by decide),h 1 (by decide)⟩,h 2 (by decide)⟩,h 3 (by decide)⟩,h 4 (by decide)⟩,b4⟩,h 5 (by decide)⟩,b5⟩,h 6 (by decide)⟩,b6⟩
theorem numB_ne {l:List UInt8} (h:numB l = true):l ≠ []:=(numB_iff.1 h).1
theorem okW_all {ws:List (List UInt8)} (h:OkW ws):∀ j,j ≤ 6 → j < ws.length ∧ wd ws j ≠ []:=by
  intro j hj
  have hl:=h.len
  refine ⟨by omega,?_⟩
  match j,hj with
  | 0,_=>rw [h.hd];decide
  | 1,_=>exact h.nm
  | 2,_=>exact h.mt
  | 3,_=>exact h.kd
  | 4,_=>exact numB_ne h.tm
  | 5,_=>exact numB_ne h.ln
  | 6,_=>exact numB_ne h.ov
  | j + 7,hj=>omega
theorem chS_at {ws:List (List UInt8)} (h:OkW ws) {i:Nat} (hi:i ≤ 6):chS ws i = (wd ws i,some (i + 1),false):=chS_ok fun j hj=>okW_all h j (by omega)
theorem parX_ok {ws:List (List UInt8)} (h:okW ws = true):parX ws = entW ws:=by
  have h:=okW_iff.1 h
  unfold parX entW
  rw [chS_at h (by decide:1 ≤ 6),chS_at h (by decide:2 ≤ 6),chS_at h (by decide:3 ≤ 6),chS_at h (by decide:4 ≤ 6),chS_at h (by decide:5 ≤ 6),chS_at h (by decide:6 ≤ 6)]
theorem okW_wr {ws:List (List UInt8)} (h:wrW ws = true):okW ws = false:=by
  rw [← Bool.not_eq_true]
  intro ho
  have ho:=okW_iff.1 ho
  have:wrW ws = false:=wrW_false.2 ⟨fun j hj=>by rw [chS_at ho hj],by rw [chS_at ho (by decide)];exact ho.tm,by rw [chS_at ho (by decide)];exact ho.ln,by rw [chS_at ho (by decide)];exact ho.ov⟩
  rw [this] at h;cases h
theorem okW_hd {ws:List (List UInt8)} (h:(chS ws 0).1 ≠ sEntry):okW ws = false:=by
  rw [← Bool.not_eq_true]
  intro ho
  have ho:=okW_iff.1 ho
  rw [chS_at ho (by decide)] at h
  exact h ho.hd
theorem okW_end {ws:List (List UInt8)} (h0:(chS ws 0).1 = sEntry) (hw:wrW ws = false):(chS ws 6).2.1 = some 7 ∧ 7 ≤ ws.length ∧ okW ws = decide (ws.length = 7):=by
  obtain ⟨h1,b4,b5,b6⟩:=wrW_false.1 hw
  have hall:=chS_back h1
  have hc:∀ i,i ≤ 6 → chS ws i = (wd ws i,some (i + 1),false):=fun i hi=>chS_ok fun j hj=>hall j (by omega)
  have h7:=(hall 6 (by decide)).1
  rw [hc 0 (by decide)] at h0
  rw [hc 4 (by decide)] at b4
  rw [hc 5 (by decide)] at b5
  rw [hc 6 (by decide)] at b6
  refine ⟨by rw [hc 6 (by decide)],h7,?_⟩
  rw [Bool.eq_iff_iff,okW_iff,decide_eq_true_eq]
  exact ⟨fun h=>h.len,fun h=>⟨h,h0,(hall 1 (by decide)).2,(hall 2 (by decide)).2,(hall 3 (by decide)).2,b4,b5,b6⟩⟩
theorem rk_eqlsT {P:Program} {c:Cx} {sl:Slots} {hs:List Asn} {dst:Option Tmp} {ty:TypeId} {pos:String} {af:Array Edge} {g:Option (Nat × Bool)} {t u:TypeId} {x y:Operand} {a b:ByteArray} (hx:Is sl x (.string a)) (hy:Is sl y (.string b)) (e:a = b) :
    RunV P c sl hs ⟨dst,.binOp .eql t x y u,ty,pos,af,g⟩ (.bool true):=by
  have:=rk_eqls (P:=P) (c:=c) (hs:=hs) (dst:=dst) (ty:=ty) (pos:=pos) (af:=af) (g:=g) (t:=t) (u:=u) hx hy
  rwa [decide_eq_true e] at this
theorem rk_eqlsF {P:Program} {c:Cx} {sl:Slots} {hs:List Asn} {dst:Option Tmp} {ty:TypeId} {pos:String} {af:Array Edge} {g:Option (Nat × Bool)} {t u:TypeId} {x y:Operand} {a b:ByteArray} (hx:Is sl x (.string a)) (hy:Is sl y (.string b)) (e:a ≠ b) :
    RunV P c sl hs ⟨dst,.binOp .eql t x y u,ty,pos,af,g⟩ (.bool false):=by
  have:=rk_eqls (P:=P) (c:=c) (hs:=hs) (dst:=dst) (ty:=ty) (pos:=pos) (af:=af) (g:=g) (t:=t) (u:=u) hx hy
  rwa [decide_eq_false e] at this
set_option maxHeartbeats 2000000 in
theorem parsed_c {s:ByteArray} (hs:s.size ≤ 5000) {w:World} (hM:MaxL w):GivesV Tryz.prog 160 [.string s] w (.tuple #[.agg (parX (splL 32 (toL s))).cells.toArray,.bool (okW (splL 32 (toL s)))]):=by
  have hl:=splL_le 32 (toL s)
  rw [← size_toL] at hl
  refine givesV_of_tr Tryz.func160 rfl rfl ?_
  (refine s_r ?_;refine tr_new (rk_alloc rfl) rfl (fun _ _=>?_);refine a_s rfl rfl ?_;refine n_r ?_;refine m_v rfl rfl ?_)
  rename_i b2 hb2
  with_reducible apply tr_call
  case hr=>exact rk_call (.of rfl) (.cons (.of rfl) (.cons (.of rfl) .nil)) inferInstance normc_
  case hd=>rfl
  case ht=>exact Takes.nil
  case hc=>
    intro w1 fp hm1 _ hs1
    obtain rfl:fp = []:=hs1
    exact split_p (c:=32) hs (hM.keeps hm1.keeps)
  intro g _
  dsimp only [id_eq,List.cons_append,List.nil_append]
  have hpos:=splL_pos 32 (toL s)
  generalize hws:splL 32 (toL s) = ws at hl hpos
  (refine tr_val (rk_buildL (.cons (.of rfl) .nil) norm_) rfl ?_;refine tr_new (rk_box (.of rfl) rfl) rfl (fun _ _=>?_);refine a_s rfl rfl ?_;refine n_r ?_;refine m_v rfl rfl ?_;refine tr_val (rk_makeFunc' (.cons (.of rfl) .nil) .nil) rfl ?_;refine a_s rfl rfl ?_;refine n_r ?_;refine m_v rfl rfl ?_)
  rename_i b4 hb4
  have hst:∀ i k,(chS ws i).2.1 = some k → k ≤ ws.length:=fun i k h=>chS_le h
  have hl':ws.length ≤ 5001:=by omega
  rw [show (Value.slice (some ⟨g,0,none⟩) ws.length ws.length) = tkV g ws.length (some 0) by rw [tkV_some,if_pos hpos,Nat.sub_zero]]
  with_reducible apply tr_call
  case hr=>exact rk_call (.of rfl) .nil inferInstance normc_
  case hd=>rfl
  case hc=>exact fun w1 fp1 hm1 hn1 hs1=>takeW_c (b:=b4) (g:=g) (ws:=ws) (st:=some 0) (wr:=false) (fun k e=>by cases e;omega) hl' hn1 hs1
  case ht=>exact .cons .here (.cons .here .nil)
  intro _ _
  dsimp only [List.cons_append,List.nil_append]
  change Tr _ _ ((15,.string (bsL (chS ws 0).1)) :: _) (blk b4 (.cells #[tkV g ws.length (chS ws 0).2.1,.bool (false || (chS ws 0).2.2)] 299) :: _) _
  (refine a_s rfl rfl ?_;refine n_r ?_;refine m_v rfl rfl ?_)
  with_reducible apply tr_call
  case hr=>exact rk_call (.of rfl) .nil inferInstance normc_
  case hd=>rfl
  case hc=>exact fun w1 fp1 hm1 hn1 hs1=>takeW_c (b:=b4) (g:=g) (ws:=ws) (st:=(chS ws 0).2.1) (wr:=(false || (chS ws 0).2.2)) (hst 0) hl' hn1 hs1
  case ht=>exact .cons .here (.cons .here .nil)
  intro _ _
  dsimp only [List.cons_append,List.nil_append]
  change Tr _ _ ((17,.string (bsL (chS ws 1).1)) :: _) (blk b4 (.cells #[tkV g ws.length (chS ws 1).2.1,.bool ((false || (chS ws 0).2.2) || (chS ws 1).2.2)] 299) :: _) _
  (refine tr_val (rk_buildL (.cons (.of rfl) .nil) norm_) rfl ?_;refine tr_new (rk_alloc rfl) rfl (fun _ _=>?_);refine tr_store (.of rfl) (.of rfl) .here rfl rfl (okc_cons rfl (okc_cons rfl (okc_cons rfl (okc_cons rfl (okc_cons rfl (okc_cons rfl okc_nil)))))) (lenb rfl) norm_ ?_;refine n_r ?_;refine m_v rfl rfl ?_)
  with_reducible apply tr_call
  case hr=>exact rk_call (.of rfl) .nil inferInstance normc_
  case hd=>rfl
  case hc=>exact fun w1 fp1 hm1 hn1 hs1=>takeW_c (b:=b4) (g:=g) (ws:=ws) (st:=(chS ws 1).2.1) (wr:=((false || (chS ws 0).2.2) || (chS ws 1).2.2)) (hst 1) hl' hn1 hs1
  case ht=>exact .cons (.there .here) (.cons (.there .here) .nil)
  intro _ _
  dsimp only [List.cons_append,List.nil_append]
  change Tr _ _ ((20,.string (bsL (chS ws 2).1)) :: _) (blk b4 (.cells #[tkV g ws.length (chS ws 2).2.1,.bool (((false || (chS ws 0).2.2) || (chS ws 1).2.2) || (chS ws 2).2.2)] 299) :: _) _
  (refine f_a rfl rfl norm0_ ?_;refine tr_store (.of rfl) (.of rfl) (.there (.there .here)) rfl rfl (okc_cons rfl okc_nil) (lenb rfl) norm_ ?_;refine n_r ?_;refine m_v rfl rfl ?_)
  with_reducible apply tr_call
  case hr=>exact rk_call (.of rfl) .nil inferInstance normc_
  case hd=>rfl
  case hc=>exact fun w1 fp1 hm1 hn1 hs1=>takeW_c (b:=b4) (g:=g) (ws:=ws) (st:=(chS ws 2).2.1) (wr:=(((false || (chS ws 0).2.2) || (chS ws 1).2.2) || (chS ws 2).2.2)) (hst 2) hl' hn1 hs1
  case ht=>exact .cons (.there .here) (.cons (.there .here) .nil)
  intro _ _
  dsimp only [List.cons_append,List.nil_append]
  change Tr _ _ ((23,.string (bsL (chS ws 3).1)) :: _) (blk b4 (.cells #[tkV g ws.length (chS ws 3).2.1,.bool ((((false || (chS ws 0).2.2) || (chS ws 1).2.2) || (chS ws 2).2.2) || (chS ws 3).2.2)] 299) :: _) _
  (refine f_a rfl rfl norm0_ ?_;refine f_a rfl rfl norm0_ ?_;refine tr_store (.of rfl) (.of rfl) (.there (.there .here)) rfl rfl (okc_cons rfl okc_nil) (lenb rfl) norm_ ?_;refine n_r ?_;refine m_v rfl rfl ?_)
  with_reducible apply tr_call
  case hr=>exact rk_call (.of rfl) (.cons (.of rfl) .nil) inferInstance normc_
  case hd=>rfl
  case hc=>exact fun w1 fp1 hm1 hn1 hs1=>takeN_c (b:=b4) (g:=g) (ws:=ws) (st:=(chS ws 3).2.1) (wr:=((((false || (chS ws 0).2.2) || (chS ws 1).2.2) || (chS ws 2).2.2) || (chS ws 3).2.2)) (hst 3) hl' hn1 hs1
  case ht=>exact .cons (.there .here) (.cons (.there .here) .nil)
  intro _ _
  dsimp only [List.cons_append,List.nil_append]
  change Tr _ _ ((27,.int .i64 (intV (chS ws 4).1)) :: _) (blk b4 (.cells #[tkV g ws.length (chS ws 4).2.1,.bool ((((((false || (chS ws 0).2.2) || (chS ws 1).2.2) || (chS ws 2).2.2) || (chS ws 3).2.2) || (chS ws 4).2.2) || !numB (chS ws 4).1)] 299) :: _) _
  (refine f_a rfl rfl norm0_ ?_;refine f_a rfl rfl norm0_ ?_;refine tr_store (.of rfl) (.of rfl) (.there (.there .here)) rfl rfl (okc_cons rfl okc_nil) (lenb rfl) norm_ ?_;refine n_r ?_;refine m_v rfl rfl ?_)
  with_reducible apply tr_call
  case hr=>exact rk_call (.of rfl) (.cons (.of rfl) .nil) inferInstance normc_
  case hd=>rfl
  case hc=>exact fun w1 fp1 hm1 hn1 hs1=>takeN_c (b:=b4) (g:=g) (ws:=ws) (st:=(chS ws 4).2.1) (wr:=((((((false || (chS ws 0).2.2) || (chS ws 1).2.2) || (chS ws 2).2.2) || (chS ws 3).2.2) || (chS ws 4).2.2) || !numB (chS ws 4).1)) (hst 4) hl' hn1 hs1
  case ht=>exact .cons (.there .here) (.cons (.there .here) .nil)
  intro _ _
  dsimp only [List.cons_append,List.nil_append]
  change Tr _ _ ((31,.int .i64 (intV (chS ws 5).1)) :: _) (blk b4 (.cells #[tkV g ws.length (chS ws 5).2.1,.bool ((((((((false || (chS ws 0).2.2) || (chS ws 1).2.2) || (chS ws 2).2.2) || (chS ws 3).2.2) || (chS ws 4).2.2) || !numB (chS ws 4).1) || (chS ws 5).2.2) || !numB (chS ws 5).1)] 299) :: _) _
  (refine f_a rfl rfl norm0_ ?_;refine tr_store (.of rfl) (.of rfl) (.there (.there .here)) rfl rfl (okc_cons rfl okc_nil) (lenb rfl) norm_ ?_;refine n_r ?_;refine m_v rfl rfl ?_)
  with_reducible apply tr_call
  case hr=>exact rk_call (.of rfl) (.cons (.of rfl) .nil) inferInstance normc_
  case hd=>rfl
  case hc=>exact fun w1 fp1 hm1 hn1 hs1=>takeN_c (b:=b4) (g:=g) (ws:=ws) (st:=(chS ws 5).2.1) (wr:=((((((((false || (chS ws 0).2.2) || (chS ws 1).2.2) || (chS ws 2).2.2) || (chS ws 3).2.2) || (chS ws 4).2.2) || !numB (chS ws 4).1) || (chS ws 5).2.2) || !numB (chS ws 5).1)) (hst 5) hl' hn1 hs1
  case ht=>exact .cons (.there .here) (.cons (.there .here) .nil)
  intro _ _
  dsimp only [List.cons_append,List.nil_append]
  change Tr _ _ ((34,.int .i64 (intV (chS ws 6).1)) :: _) (blk b4 (.cells #[tkV g ws.length (chS ws 6).2.1,.bool ((((((((((false || (chS ws 0).2.2) || (chS ws 1).2.2) || (chS ws 2).2.2) || (chS ws 3).2.2) || (chS ws 4).2.2) || !numB (chS ws 4).1) || (chS ws 5).2.2) || !numB (chS ws 5).1) || (chS ws 6).2.2) || !numB (chS ws 6).1)] 299) :: _) _
  (refine f_a rfl rfl norm0_ ?_;refine tr_store (.of rfl) (.of rfl) (.there (.there .here)) rfl rfl (okc_cons rfl okc_nil) (lenb rfl) norm_ ?_;refine n_t ?_;refine tr_seq ?_)
  subst hws
  have hwr:=wrW_false (ws:=splL 32 (toL s))
  generalize hW:(((((((((((false || (chS (splL 32 (toL s)) 0).2.2) || (chS (splL 32 (toL s)) 1).2.2) || (chS (splL 32 (toL s)) 2).2.2) || (chS (splL 32 (toL s)) 3).2.2) || (chS (splL 32 (toL s)) 4).2.2) || !numB (chS (splL 32 (toL s)) 4).1) || (chS (splL 32 (toL s)) 5).2.2) || !numB (chS (splL 32 (toL s)) 5).1) || (chS (splL 32 (toL s)) 6).2.2) || !numB (chS (splL 32 (toL s)) 6).1)) = W
  have hWr:wrW (splL 32 (toL s)) = W:=hW
  have hx:(parX (splL 32 (toL s))).cells = [.string (bsL (chS (splL 32 (toL s)) 1).1),.string (bsL (chS (splL 32 (toL s)) 2).1),.string (bsL (chS (splL 32 (toL s)) 3).1),.int .i64 (intV (chS (splL 32 (toL s)) 4).1),.int .i64 (intV (chS (splL 32 (toL s)) 5).1),.int .i64 (intV (chS (splL 32 (toL s)) 6).1)]:=rfl
  rw [hx]
  have hsE:(⟨#[101,110,116,114,121]⟩:ByteArray) = bsL sEntry:=rfl
  by_cases hent:bsL (chS (splL 32 (toL s)) 0).1 = ⟨#[101,110,116,114,121]⟩
  · have h0:(chS (splL 32 (toL s)) 0).1 = sEntry:=bsL_inj (hent.trans hsE)
    cases W with
    | true =>
      refine tr_left 20 rfl ?_
      refine left_take 1 (by exact rfl) (by kernel_rfl) (by kernel_rfl) (by kernel_rfl) (fun w ρ=>rfl) (fun w=>rk_move (.of rfl)) rfl ?_
      refine left_take 2 (by exact rfl) (by kernel_rfl) (by kernel_rfl) (by kernel_rfl) (fun w ρ=>rfl) (fun w=>rk_eqlsT (.of rfl) (.of rfl) hent) rfl ?_
      refine left_take 3 (by exact rfl) (by kernel_rfl) (by kernel_rfl) (by kernel_rfl) (fun w ρ=>rfl) (fun w=>rk_move (.of rfl)) rfl ?_
      refine left_takeOn 4 (by exact rfl) (by kernel_rfl) (by kernel_rfl) (by kernel_rfl) rfl rfl (fun w ρ=>rfl) (fun w=>rk_move (.of rfl)) rfl ?_
      refine left_takeOn 5 (by exact rfl) (by kernel_rfl) (by kernel_rfl) (by kernel_rfl) rfl rfl (fun w ρ=>rfl) (fun w=>rk_nilCheck (.of rfl)) rfl ?_
      refine left_takeOn (V:=.pointer (some ⟨b4,1,none⟩)) 6 (by exact rfl) (by kernel_rfl) (by kernel_rfl) (by kernel_rfl) rfl rfl (fun w ρ=>rfl) (fun w=>rk_fieldAddr (.of rfl) rfl) rfl ?_
      refine left_ready (rs:=[0,7]) (by kernel_rfl) (by simp) (List.forall_mem_cons.2 ⟨?_,List.forall_mem_cons.2 ⟨?_,fun _ h=>absurd h List.not_mem_nil⟩⟩)
      · refine next_step rfl ?_
        (refine tr_val (rk_loadB (.of rfl) .here norm_ (by rfl)) rfl ?_;refine n_t ?_)
        refine left_ready (rs:=[7]) (by kernel_rfl) (by simp) (List.forall_mem_cons.2 ⟨?_,fun _ h=>absurd h List.not_mem_nil⟩)
        refine next_step rfl ?_
        refine tr_gOn (by exact rfl) (by exact rfl) ?_
        (refine tr_val (rk_load1 (.of rfl) (At.lit (.there .here) rfl)) rfl ?_;refine n_t ?_)
        refine left_takeOn (V:=.bool (!true)) 8 (by exact rfl) (by kernel_rfl) (by kernel_rfl) (by kernel_rfl) rfl rfl (fun w ρ=>rfl) (fun w=>rk_not (.of rfl)) rfl ?_
        refine left_take (V:=.bool false) 9 (by exact rfl) (by kernel_rfl) (by kernel_rfl) (by kernel_rfl) (fun w ρ=>rfl) (fun w=>rk_pickB (q:=true) (.of rfl) (.of rfl) (.of rfl) rfl) rfl ?_
        refine left_take 10 (by exact rfl) (by kernel_rfl) (by kernel_rfl) (by kernel_rfl) (fun w ρ=>rfl) (fun w=>rk_move (.of rfl)) rfl ?_
        refine left_takeOff 11 (by exact rfl) (by kernel_rfl) (by kernel_rfl) (by kernel_rfl) rfl rfl (.inr rfl) (fun w ρ=>rfl) rfl ?_
        refine left_takeOff 12 (by exact rfl) (by kernel_rfl) (by kernel_rfl) (by kernel_rfl) rfl rfl (.inr rfl) (fun w ρ=>rfl) rfl ?_
        refine left_takeOff 13 (by exact rfl) (by kernel_rfl) (by kernel_rfl) (by kernel_rfl) rfl rfl (.inr rfl) (fun w ρ=>rfl) rfl ?_
        refine left_takeOff 14 (by exact rfl) (by kernel_rfl) (by kernel_rfl) (by kernel_rfl) rfl rfl (.inr rfl) (fun w ρ=>rfl) rfl ?_
        refine left_takeOff 15 (by exact rfl) (by kernel_rfl) (by kernel_rfl) (by kernel_rfl) rfl rfl (.inr rfl) (fun w ρ=>rfl) rfl ?_
        refine left_takeOff 16 (by exact rfl) (by kernel_rfl) (by kernel_rfl) (by kernel_rfl) rfl rfl (.inr rfl) (fun w ρ=>rfl) rfl ?_
        refine left_take (V:=.bool false) 17 (by exact rfl) (by kernel_rfl) (by kernel_rfl) (by kernel_rfl) (fun w ρ=>rfl) (fun w=>rk_pickB (q:=false) (.of rfl) (.of rfl) (.of rfl) rfl) rfl ?_
        refine left_ready (rs:=[18]) (by kernel_rfl) (by simp) (List.forall_mem_cons.2 ⟨?_,fun _ h=>absurd h List.not_mem_nil⟩)
        refine next_step rfl ?_
        (refine tr_store (.of rfl) (.of rfl) (.there (.there (.there .here))) rfl rfl (okc_cons rfl (okc_cons rfl (okc_cons rfl (okc_cons rfl (okc_cons rfl (okc_cons rfl okc_nil)))))) (lenb rfl) norm_ ?_;refine n_t ?_)
        refine left_ready (rs:=[19]) (by kernel_rfl) (by simp) (List.forall_mem_cons.2 ⟨?_,fun _ h=>absurd h List.not_mem_nil⟩)
        refine next_step rfl ?_
        (refine a_s rfl rfl ?_;refine n_t ?_)
        with_reducible refine left_done (by kernel_rfl) ?_
        (refine tr_then ?_;refine tr_ret ?_;refine tr_retE rfl (endsCT rfl inferInstance rfl .here norm_ (by rfl) (by rfl)) ?_)
        rw [okW_wr hWr]
      · refine next_step rfl ?_
        refine tr_gOn (by exact rfl) (by exact rfl) ?_
        (refine tr_val (rk_load1 (.of rfl) (At.lit (.there .here) rfl)) rfl ?_;refine n_t ?_)
        refine left_takeOn (V:=.bool (!true)) 8 (by exact rfl) (by kernel_rfl) (by kernel_rfl) (by kernel_rfl) rfl rfl (fun w ρ=>rfl) (fun w=>rk_not (.of rfl)) rfl ?_
        refine left_take (V:=.bool false) 9 (by exact rfl) (by kernel_rfl) (by kernel_rfl) (by kernel_rfl) (fun w ρ=>rfl) (fun w=>rk_pickB (q:=true) (.of rfl) (.of rfl) (.of rfl) rfl) rfl ?_
        refine left_take 10 (by exact rfl) (by kernel_rfl) (by kernel_rfl) (by kernel_rfl) (fun w ρ=>rfl) (fun w=>rk_move (.of rfl)) rfl ?_
        refine left_takeOff 11 (by exact rfl) (by kernel_rfl) (by kernel_rfl) (by kernel_rfl) rfl rfl (.inr rfl) (fun w ρ=>rfl) rfl ?_
        refine left_takeOff 12 (by exact rfl) (by kernel_rfl) (by kernel_rfl) (by kernel_rfl) rfl rfl (.inr rfl) (fun w ρ=>rfl) rfl ?_
        refine left_takeOff 13 (by exact rfl) (by kernel_rfl) (by kernel_rfl) (by kernel_rfl) rfl rfl (.inr rfl) (fun w ρ=>rfl) rfl ?_
        refine left_takeOff 14 (by exact rfl) (by kernel_rfl) (by kernel_rfl) (by kernel_rfl) rfl rfl (.inr rfl) (fun w ρ=>rfl) rfl ?_
        refine left_takeOff 15 (by exact rfl) (by kernel_rfl) (by kernel_rfl) (by kernel_rfl) rfl rfl (.inr rfl) (fun w ρ=>rfl) rfl ?_
        refine left_takeOff 16 (by exact rfl) (by kernel_rfl) (by kernel_rfl) (by kernel_rfl) rfl rfl (.inr rfl) (fun w ρ=>rfl) rfl ?_
        refine left_take (V:=.bool false) 17 (by exact rfl) (by kernel_rfl) (by kernel_rfl) (by kernel_rfl) (fun w ρ=>rfl) (fun w=>rk_pickB (q:=false) (.of rfl) (.of rfl) (.of rfl) rfl) rfl ?_
        refine left_ready (rs:=[0]) (by kernel_rfl) (by simp) (List.forall_mem_cons.2 ⟨?_,fun _ h=>absurd h List.not_mem_nil⟩)
        refine next_step rfl ?_
        (refine tr_val (rk_loadB (.of rfl) .here norm_ (by rfl)) rfl ?_;refine n_t ?_)
        refine left_ready (rs:=[18]) (by kernel_rfl) (by simp) (List.forall_mem_cons.2 ⟨?_,fun _ h=>absurd h List.not_mem_nil⟩)
        refine next_step rfl ?_
        (refine tr_store (.of rfl) (.of rfl) (.there (.there (.there .here))) rfl rfl (okc_cons rfl (okc_cons rfl (okc_cons rfl (okc_cons rfl (okc_cons rfl (okc_cons rfl okc_nil)))))) (lenb rfl) norm_ ?_;refine n_t ?_)
        refine left_ready (rs:=[19]) (by kernel_rfl) (by simp) (List.forall_mem_cons.2 ⟨?_,fun _ h=>absurd h List.not_mem_nil⟩)
        refine next_step rfl ?_
        (refine a_s rfl rfl ?_;refine n_t ?_)
        with_reducible refine left_done (by kernel_rfl) ?_
        (refine tr_then ?_;refine tr_ret ?_;refine tr_retE rfl (endsCT rfl inferInstance rfl .here norm_ (by rfl) (by rfl)) ?_)
        rw [okW_wr hWr]
    | false =>
      obtain ⟨e7,h7,ho⟩:=okW_end h0 hWr
      have e9:decide ((((splL 32 (toL s)).length - 7:Nat):Int) = 0) = decide ((splL 32 (toL s)).length = 7):=decide_eq_decide.2 (by omega)
      rw [e7,ho,tkV_some]
      refine tr_left 20 rfl ?_
      refine left_take 1 (by exact rfl) (by kernel_rfl) (by kernel_rfl) (by kernel_rfl) (fun w ρ=>rfl) (fun w=>rk_move (.of rfl)) rfl ?_
      refine left_take 2 (by exact rfl) (by kernel_rfl) (by kernel_rfl) (by kernel_rfl) (fun w ρ=>rfl) (fun w=>rk_eqlsT (.of rfl) (.of rfl) hent) rfl ?_
      refine left_take 3 (by exact rfl) (by kernel_rfl) (by kernel_rfl) (by kernel_rfl) (fun w ρ=>rfl) (fun w=>rk_move (.of rfl)) rfl ?_
      refine left_takeOn 4 (by exact rfl) (by kernel_rfl) (by kernel_rfl) (by kernel_rfl) rfl rfl (fun w ρ=>rfl) (fun w=>rk_move (.of rfl)) rfl ?_
      refine left_takeOn 5 (by exact rfl) (by kernel_rfl) (by kernel_rfl) (by kernel_rfl) rfl rfl (fun w ρ=>rfl) (fun w=>rk_nilCheck (.of rfl)) rfl ?_
      refine left_takeOn (V:=.pointer (some ⟨b4,1,none⟩)) 6 (by exact rfl) (by kernel_rfl) (by kernel_rfl) (by kernel_rfl) rfl rfl (fun w ρ=>rfl) (fun w=>rk_fieldAddr (.of rfl) rfl) rfl ?_
      refine left_ready (rs:=[0,7]) (by kernel_rfl) (by simp) (List.forall_mem_cons.2 ⟨?_,List.forall_mem_cons.2 ⟨?_,fun _ h=>absurd h List.not_mem_nil⟩⟩)
      · refine next_step rfl ?_
        (refine tr_val (rk_loadB (.of rfl) .here norm_ (by rfl)) rfl ?_;refine n_t ?_)
        refine left_ready (rs:=[7]) (by kernel_rfl) (by simp) (List.forall_mem_cons.2 ⟨?_,fun _ h=>absurd h List.not_mem_nil⟩)
        refine next_step rfl ?_
        refine tr_gOn (by exact rfl) (by exact rfl) ?_
        (refine tr_val (rk_load1 (.of rfl) (At.lit (.there .here) rfl)) rfl ?_;refine n_t ?_)
        refine left_takeOn (V:=.bool (!false)) 8 (by exact rfl) (by kernel_rfl) (by kernel_rfl) (by kernel_rfl) rfl rfl (fun w ρ=>rfl) (fun w=>rk_not (.of rfl)) rfl ?_
        refine left_take (V:=.bool true) 9 (by exact rfl) (by kernel_rfl) (by kernel_rfl) (by kernel_rfl) (fun w ρ=>rfl) (fun w=>rk_pickB (q:=true) (.of rfl) (.of rfl) (.of rfl) rfl) rfl ?_
        refine left_take 10 (by exact rfl) (by kernel_rfl) (by kernel_rfl) (by kernel_rfl) (fun w ρ=>rfl) (fun w=>rk_move (.of rfl)) rfl ?_
        refine left_takeOn 11 (by exact rfl) (by kernel_rfl) (by kernel_rfl) (by kernel_rfl) rfl rfl (fun w ρ=>rfl) (fun w=>rk_move (.of rfl)) rfl ?_
        refine left_takeOn 12 (by exact rfl) (by kernel_rfl) (by kernel_rfl) (by kernel_rfl) rfl rfl (fun w ρ=>rfl) (fun w=>rk_nilCheck (.of rfl)) rfl ?_
        refine left_takeOn (V:=.pointer (some ⟨b4,0,none⟩)) 13 (by exact rfl) (by kernel_rfl) (by kernel_rfl) (by kernel_rfl) rfl rfl (fun w ρ=>rfl) (fun w=>rk_fieldAddr (.of rfl) rfl) rfl ?_
        refine left_ready (rs:=[14,18]) (by kernel_rfl) (by simp) (List.forall_mem_cons.2 ⟨?_,List.forall_mem_cons.2 ⟨?_,fun _ h=>absurd h List.not_mem_nil⟩⟩)
        · refine next_step rfl ?_
          refine tr_gOn (by exact rfl) (by exact rfl) ?_
          (refine tr_val (rk_load1 (.of rfl) (At.lit (.there .here) rfl)) rfl ?_;refine n_t ?_)
          refine left_takeOn 15 (by exact rfl) (by kernel_rfl) (by kernel_rfl) (by kernel_rfl) rfl rfl (fun w ρ=>rfl) (fun w=>rk_len_slice (.of rfl)) rfl ?_
          refine left_takeOn 16 (by exact rfl) (by kernel_rfl) (by kernel_rfl) (by kernel_rfl) rfl rfl (fun w ρ=>rfl) (fun w=>rk_eql (.of rfl) (.of rfl)) rfl ?_
          refine left_take 17 (by exact rfl) (by kernel_rfl) (by kernel_rfl) (by kernel_rfl) (fun w ρ=>rfl) (fun w=>rk_pickB (q:=true) (.of rfl) (.of rfl) (.of rfl) rfl) rfl ?_
          refine left_ready (rs:=[18]) (by kernel_rfl) (by simp) (List.forall_mem_cons.2 ⟨?_,fun _ h=>absurd h List.not_mem_nil⟩)
          refine next_step rfl ?_
          (refine tr_store (.of rfl) (.of rfl) (.there (.there (.there .here))) rfl rfl (okc_cons rfl (okc_cons rfl (okc_cons rfl (okc_cons rfl (okc_cons rfl (okc_cons rfl okc_nil)))))) (lenb rfl) norm_ ?_;refine n_t ?_)
          refine left_ready (rs:=[19]) (by kernel_rfl) (by simp) (List.forall_mem_cons.2 ⟨?_,fun _ h=>absurd h List.not_mem_nil⟩)
          refine next_step rfl ?_
          (refine a_s rfl rfl ?_;refine n_t ?_)
          with_reducible refine left_done (by kernel_rfl) ?_
          (refine tr_then ?_;refine tr_ret ?_;refine tr_retE rfl (endsCT rfl inferInstance rfl .here norm_ (by rfl) (by rfl)) ?_)
          simp only [cond_true,e9]
        · refine next_step rfl ?_
          (refine tr_store (.of rfl) (.of rfl) (.there (.there (.there .here))) rfl rfl (okc_cons rfl (okc_cons rfl (okc_cons rfl (okc_cons rfl (okc_cons rfl (okc_cons rfl okc_nil)))))) (lenb rfl) norm_ ?_;refine n_t ?_)
          refine left_ready (rs:=[14]) (by kernel_rfl) (by simp) (List.forall_mem_cons.2 ⟨?_,fun _ h=>absurd h List.not_mem_nil⟩)
          refine next_step rfl ?_
          refine tr_gOn (by exact rfl) (by exact rfl) ?_
          (refine tr_val (rk_load1 (.of rfl) (At.lit (.there (.there .here)) rfl)) rfl ?_;refine n_t ?_)
          refine left_takeOn 15 (by exact rfl) (by kernel_rfl) (by kernel_rfl) (by kernel_rfl) rfl rfl (fun w ρ=>rfl) (fun w=>rk_len_slice (.of rfl)) rfl ?_
          refine left_takeOn 16 (by exact rfl) (by kernel_rfl) (by kernel_rfl) (by kernel_rfl) rfl rfl (fun w ρ=>rfl) (fun w=>rk_eql (.of rfl) (.of rfl)) rfl ?_
          refine left_take 17 (by exact rfl) (by kernel_rfl) (by kernel_rfl) (by kernel_rfl) (fun w ρ=>rfl) (fun w=>rk_pickB (q:=true) (.of rfl) (.of rfl) (.of rfl) rfl) rfl ?_
          refine left_ready (rs:=[19]) (by kernel_rfl) (by simp) (List.forall_mem_cons.2 ⟨?_,fun _ h=>absurd h List.not_mem_nil⟩)
          refine next_step rfl ?_
          (refine a_s rfl rfl ?_;refine n_t ?_)
          with_reducible refine left_done (by kernel_rfl) ?_
          (refine tr_then ?_;refine tr_ret ?_;refine tr_retE rfl (endsCT rfl inferInstance rfl .here norm_ (by rfl) (by rfl)) ?_)
          simp only [cond_true,e9]
      · refine next_step rfl ?_
        refine tr_gOn (by exact rfl) (by exact rfl) ?_
        (refine tr_val (rk_load1 (.of rfl) (At.lit (.there .here) rfl)) rfl ?_;refine n_t ?_)
        refine left_takeOn (V:=.bool (!false)) 8 (by exact rfl) (by kernel_rfl) (by kernel_rfl) (by kernel_rfl) rfl rfl (fun w ρ=>rfl) (fun w=>rk_not (.of rfl)) rfl ?_
        refine left_take (V:=.bool true) 9 (by exact rfl) (by kernel_rfl) (by kernel_rfl) (by kernel_rfl) (fun w ρ=>rfl) (fun w=>rk_pickB (q:=true) (.of rfl) (.of rfl) (.of rfl) rfl) rfl ?_
        refine left_take 10 (by exact rfl) (by kernel_rfl) (by kernel_rfl) (by kernel_rfl) (fun w ρ=>rfl) (fun w=>rk_move (.of rfl)) rfl ?_
        refine left_takeOn 11 (by exact rfl) (by kernel_rfl) (by kernel_rfl) (by kernel_rfl) rfl rfl (fun w ρ=>rfl) (fun w=>rk_move (.of rfl)) rfl ?_
        refine left_takeOn 12 (by exact rfl) (by kernel_rfl) (by kernel_rfl) (by kernel_rfl) rfl rfl (fun w ρ=>rfl) (fun w=>rk_nilCheck (.of rfl)) rfl ?_
        refine left_takeOn (V:=.pointer (some ⟨b4,0,none⟩)) 13 (by exact rfl) (by kernel_rfl) (by kernel_rfl) (by kernel_rfl) rfl rfl (fun w ρ=>rfl) (fun w=>rk_fieldAddr (.of rfl) rfl) rfl ?_
        refine left_ready (rs:=[0,14]) (by kernel_rfl) (by simp) (List.forall_mem_cons.2 ⟨?_,List.forall_mem_cons.2 ⟨?_,fun _ h=>absurd h List.not_mem_nil⟩⟩)
        · refine next_step rfl ?_
          (refine tr_val (rk_loadB (.of rfl) .here norm_ (by rfl)) rfl ?_;refine n_t ?_)
          refine left_ready (rs:=[14,18]) (by kernel_rfl) (by simp) (List.forall_mem_cons.2 ⟨?_,List.forall_mem_cons.2 ⟨?_,fun _ h=>absurd h List.not_mem_nil⟩⟩)
          · refine next_step rfl ?_
            refine tr_gOn (by exact rfl) (by exact rfl) ?_
            (refine tr_val (rk_load1 (.of rfl) (At.lit (.there .here) rfl)) rfl ?_;refine n_t ?_)
            refine left_takeOn 15 (by exact rfl) (by kernel_rfl) (by kernel_rfl) (by kernel_rfl) rfl rfl (fun w ρ=>rfl) (fun w=>rk_len_slice (.of rfl)) rfl ?_
            refine left_takeOn 16 (by exact rfl) (by kernel_rfl) (by kernel_rfl) (by kernel_rfl) rfl rfl (fun w ρ=>rfl) (fun w=>rk_eql (.of rfl) (.of rfl)) rfl ?_
            refine left_take 17 (by exact rfl) (by kernel_rfl) (by kernel_rfl) (by kernel_rfl) (fun w ρ=>rfl) (fun w=>rk_pickB (q:=true) (.of rfl) (.of rfl) (.of rfl) rfl) rfl ?_
            refine left_ready (rs:=[18]) (by kernel_rfl) (by simp) (List.forall_mem_cons.2 ⟨?_,fun _ h=>absurd h List.not_mem_nil⟩)
            refine next_step rfl ?_
            (refine tr_store (.of rfl) (.of rfl) (.there (.there (.there .here))) rfl rfl (okc_cons rfl (okc_cons rfl (okc_cons rfl (okc_cons rfl (okc_cons rfl (okc_cons rfl okc_nil)))))) (lenb rfl) norm_ ?_;refine n_t ?_)
            refine left_ready (rs:=[19]) (by kernel_rfl) (by simp) (List.forall_mem_cons.2 ⟨?_,fun _ h=>absurd h List.not_mem_nil⟩)
            refine next_step rfl ?_
            (refine a_s rfl rfl ?_;refine n_t ?_)
            with_reducible refine left_done (by kernel_rfl) ?_
            (refine tr_then ?_;refine tr_ret ?_;refine tr_retE rfl (endsCT rfl inferInstance rfl .here norm_ (by rfl) (by rfl)) ?_)
            simp only [cond_true,e9]
          · refine next_step rfl ?_
            (refine tr_store (.of rfl) (.of rfl) (.there (.there (.there .here))) rfl rfl (okc_cons rfl (okc_cons rfl (okc_cons rfl (okc_cons rfl (okc_cons rfl (okc_cons rfl okc_nil)))))) (lenb rfl) norm_ ?_;refine n_t ?_)
            refine left_ready (rs:=[14]) (by kernel_rfl) (by simp) (List.forall_mem_cons.2 ⟨?_,fun _ h=>absurd h List.not_mem_nil⟩)
            refine next_step rfl ?_
            refine tr_gOn (by exact rfl) (by exact rfl) ?_
            (refine tr_val (rk_load1 (.of rfl) (At.lit (.there (.there .here)) rfl)) rfl ?_;refine n_t ?_)
            refine left_takeOn 15 (by exact rfl) (by kernel_rfl) (by kernel_rfl) (by kernel_rfl) rfl rfl (fun w ρ=>rfl) (fun w=>rk_len_slice (.of rfl)) rfl ?_
            refine left_takeOn 16 (by exact rfl) (by kernel_rfl) (by kernel_rfl) (by kernel_rfl) rfl rfl (fun w ρ=>rfl) (fun w=>rk_eql (.of rfl) (.of rfl)) rfl ?_
            refine left_take 17 (by exact rfl) (by kernel_rfl) (by kernel_rfl) (by kernel_rfl) (fun w ρ=>rfl) (fun w=>rk_pickB (q:=true) (.of rfl) (.of rfl) (.of rfl) rfl) rfl ?_
            refine left_ready (rs:=[19]) (by kernel_rfl) (by simp) (List.forall_mem_cons.2 ⟨?_,fun _ h=>absurd h List.not_mem_nil⟩)
            refine next_step rfl ?_
            (refine a_s rfl rfl ?_;refine n_t ?_)
            with_reducible refine left_done (by kernel_rfl) ?_
            (refine tr_then ?_;refine tr_ret ?_;refine tr_retE rfl (endsCT rfl inferInstance rfl .here norm_ (by rfl) (by rfl)) ?_)
            simp only [cond_true,e9]
        · refine next_step rfl ?_
          refine tr_gOn (by exact rfl) (by exact rfl) ?_
          (refine tr_val (rk_load1 (.of rfl) (At.lit (.there .here) rfl)) rfl ?_;refine n_t ?_)
          refine left_takeOn 15 (by exact rfl) (by kernel_rfl) (by kernel_rfl) (by kernel_rfl) rfl rfl (fun w ρ=>rfl) (fun w=>rk_len_slice (.of rfl)) rfl ?_
          refine left_takeOn 16 (by exact rfl) (by kernel_rfl) (by kernel_rfl) (by kernel_rfl) rfl rfl (fun w ρ=>rfl) (fun w=>rk_eql (.of rfl) (.of rfl)) rfl ?_
          refine left_take 17 (by exact rfl) (by kernel_rfl) (by kernel_rfl) (by kernel_rfl) (fun w ρ=>rfl) (fun w=>rk_pickB (q:=true) (.of rfl) (.of rfl) (.of rfl) rfl) rfl ?_
          refine left_ready (rs:=[0]) (by kernel_rfl) (by simp) (List.forall_mem_cons.2 ⟨?_,fun _ h=>absurd h List.not_mem_nil⟩)
          refine next_step rfl ?_
          (refine tr_val (rk_loadB (.of rfl) .here norm_ (by rfl)) rfl ?_;refine n_t ?_)
          refine left_ready (rs:=[18]) (by kernel_rfl) (by simp) (List.forall_mem_cons.2 ⟨?_,fun _ h=>absurd h List.not_mem_nil⟩)
          refine next_step rfl ?_
          (refine tr_store (.of rfl) (.of rfl) (.there (.there (.there .here))) rfl rfl (okc_cons rfl (okc_cons rfl (okc_cons rfl (okc_cons rfl (okc_cons rfl (okc_cons rfl okc_nil)))))) (lenb rfl) norm_ ?_;refine n_t ?_)
          refine left_ready (rs:=[19]) (by kernel_rfl) (by simp) (List.forall_mem_cons.2 ⟨?_,fun _ h=>absurd h List.not_mem_nil⟩)
          refine next_step rfl ?_
          (refine a_s rfl rfl ?_;refine n_t ?_)
          with_reducible refine left_done (by kernel_rfl) ?_
          (refine tr_then ?_;refine tr_ret ?_;refine tr_retE rfl (endsCT rfl inferInstance rfl .here norm_ (by rfl) (by rfl)) ?_)
          simp only [cond_true,e9]
  · have h0:(chS (splL 32 (toL s)) 0).1 ≠ sEntry:=fun e=>hent (by rw [e];rfl)
    refine tr_left 20 rfl ?_
    refine left_take 1 (by exact rfl) (by kernel_rfl) (by kernel_rfl) (by kernel_rfl) (fun w ρ=>rfl) (fun w=>rk_move (.of rfl)) rfl ?_
    refine left_take 2 (by exact rfl) (by kernel_rfl) (by kernel_rfl) (by kernel_rfl) (fun w ρ=>rfl) (fun w=>rk_eqlsF (.of rfl) (.of rfl) hent) rfl ?_
    refine left_take 3 (by exact rfl) (by kernel_rfl) (by kernel_rfl) (by kernel_rfl) (fun w ρ=>rfl) (fun w=>rk_move (.of rfl)) rfl ?_
    refine left_takeOff 4 (by exact rfl) (by kernel_rfl) (by kernel_rfl) (by kernel_rfl) rfl rfl (.inr rfl) (fun w ρ=>rfl) rfl ?_
    refine left_takeOff 5 (by exact rfl) (by kernel_rfl) (by kernel_rfl) (by kernel_rfl) rfl rfl (.inr rfl) (fun w ρ=>rfl) rfl ?_
    refine left_takeOff 6 (by exact rfl) (by kernel_rfl) (by kernel_rfl) (by kernel_rfl) rfl rfl (.inr rfl) (fun w ρ=>rfl) rfl ?_
    refine left_takeOff 7 (by exact rfl) (by kernel_rfl) (by kernel_rfl) (by kernel_rfl) rfl rfl (.inr rfl) (fun w ρ=>rfl) rfl ?_
    refine left_takeOff 8 (by exact rfl) (by kernel_rfl) (by kernel_rfl) (by kernel_rfl) rfl rfl (.inr rfl) (fun w ρ=>rfl) rfl ?_
    refine left_take (V:=.bool false) 9 (by exact rfl) (by kernel_rfl) (by kernel_rfl) (by kernel_rfl) (fun w ρ=>rfl) (fun w=>rk_pickB (q:=false) (.of rfl) (.of rfl) (.of rfl) rfl) rfl ?_
    refine left_take 10 (by exact rfl) (by kernel_rfl) (by kernel_rfl) (by kernel_rfl) (fun w ρ=>rfl) (fun w=>rk_move (.of rfl)) rfl ?_
    refine left_takeOff 11 (by exact rfl) (by kernel_rfl) (by kernel_rfl) (by kernel_rfl) rfl rfl (.inr rfl) (fun w ρ=>rfl) rfl ?_
    refine left_takeOff 12 (by exact rfl) (by kernel_rfl) (by kernel_rfl) (by kernel_rfl) rfl rfl (.inr rfl) (fun w ρ=>rfl) rfl ?_
    refine left_takeOff 13 (by exact rfl) (by kernel_rfl) (by kernel_rfl) (by kernel_rfl) rfl rfl (.inr rfl) (fun w ρ=>rfl) rfl ?_
    refine left_takeOff 14 (by exact rfl) (by kernel_rfl) (by kernel_rfl) (by kernel_rfl) rfl rfl (.inr rfl) (fun w ρ=>rfl) rfl ?_
    refine left_takeOff 15 (by exact rfl) (by kernel_rfl) (by kernel_rfl) (by kernel_rfl) rfl rfl (.inr rfl) (fun w ρ=>rfl) rfl ?_
    refine left_takeOff 16 (by exact rfl) (by kernel_rfl) (by kernel_rfl) (by kernel_rfl) rfl rfl (.inr rfl) (fun w ρ=>rfl) rfl ?_
    refine left_take (V:=.bool false) 17 (by exact rfl) (by kernel_rfl) (by kernel_rfl) (by kernel_rfl) (fun w ρ=>rfl) (fun w=>rk_pickB (q:=false) (.of rfl) (.of rfl) (.of rfl) rfl) rfl ?_
    refine left_ready (rs:=[0]) (by kernel_rfl) (by simp) (List.forall_mem_cons.2 ⟨?_,fun _ h=>absurd h List.not_mem_nil⟩)
    refine next_step rfl ?_
    (refine tr_val (rk_loadB (.of rfl) .here norm_ (by rfl)) rfl ?_;refine n_t ?_)
    refine left_ready (rs:=[18]) (by kernel_rfl) (by simp) (List.forall_mem_cons.2 ⟨?_,fun _ h=>absurd h List.not_mem_nil⟩)
    refine next_step rfl ?_
    (refine tr_store (.of rfl) (.of rfl) (.there (.there (.there .here))) rfl rfl (okc_cons rfl (okc_cons rfl (okc_cons rfl (okc_cons rfl (okc_cons rfl (okc_cons rfl okc_nil)))))) (lenb rfl) norm_ ?_;refine n_t ?_)
    refine left_ready (rs:=[19]) (by kernel_rfl) (by simp) (List.forall_mem_cons.2 ⟨?_,fun _ h=>absurd h List.not_mem_nil⟩)
    refine next_step rfl ?_
    (refine a_s rfl rfl ?_;refine n_t ?_)
    with_reducible refine left_done (by kernel_rfl) ?_
    (refine tr_then ?_;refine tr_ret ?_;refine tr_retE rfl (endsCT rfl inferInstance rfl .here norm_ (by rfl) (by rfl)) ?_)
    rw [okW_hd h0]
end Go.Proofs.A1
namespace Go.SL
open Go
def IterO (P:Program) (f:FuncId) (first cap:List Value) (own own1:List Asn) (items:List (List Value)) (w0:World) (md:List Nat) (w:World):Prop:=
  ∀ (l : Nat) (fp : List Nat) (J : Nat → Asn) (E : Asn), Keeps md w0 w → (∀ b ∈ fp, b ∈ md ∨ w0.heap.size ≤ b) → fp.Nodup → Sats (hp w) (J 0 :: own) fp →
    (∀ k vs,items[k]? = some vs → YieldsB P l vs w0 md (J k) (fun b=>bif b then J (k + 1) else E)) →
    Gives P f (first++[.func (.yield l) #[] #[]]++cap) w fp (fun _:Bool=>True) (fun _=>.tuple #[]) (fun b=>(bif b then J items.length else E) :: own1)
section
variable {P:Program} {r:Option Nat} {c:Cx} {D:List Nat} {sl:Slots} {hs hs':List Asn} {Q:Exit → Act → World → Prop} {ι κ:Type}
theorem tr_rangeSeqO {g:Operand} {ps:List Tmp} {asg body:Code} {f:FuncId} {first cap:List Value} [Bod P f] (hg:Is sl g (.func (.func f) first.toArray cap.toArray))
    (own own1:List Asn) (items:List (List Value)) (hit:∀ w,Mem c hs w → IterO P f first cap own own1 items c.w0 c.md w)
    (Φ:Nat → ι → Prop) (A:ι → List Asn) (Ψ:κ → Prop) (B:κ → List Asn) (pd:κ → Code) (x0:ι) {rst:List Asn} (h0:Φ 0 x0) (ht:Takes hs (A x0++own) rst)
    (hlen:∀ vs ∈ items,vs.length = ps.length) (hps:∀ t ∈ ps,t < c.nt)
    (round:∀ l rc W fp k x vs,rc.tmps.size = c.nt → items[k]? = some vs → Φ k x → Keeps c.md c.w0 W → (∀ b ∈ fp,b ∈ c.md ∨ c.w0.heap.size ≤ b) →
      Tr ⟨W,fp,c.nt⟩ [] (putAll (ps.zip vs) sl) (blk l (recL rc .ready none) :: A x) (WP P (some l) asg (Exit.then (Begins P l body (RoundR fp W (SeqPost l rc Φ A Ψ B pd (k + 1)))) (fun _ _ _=>False))))
    (kn:∀ x D,Φ items.length x → Tr c D sl (A x++own1++rst) (Q .normal))
    (kj:∀ y D,Ψ y → Tr c D sl (B y++own1++rst) (WP P none (pd y) Q)) :
    Tr c D sl hs (WP P none (.rangeFunc g ps.toArray asg body) Q):=by
  refine tr_rangeFunc (ι:=ι ⊕ κ) hg (As:=fun l rc=>blk l (recL rc .ready none) :: (A x0++own)) (rest:=rst)
    (Φ:=fun l rc x=>match x with | .inl x=>Φ items.length x | .inr y=>Ψ y) (own:=fun l rc x=>match x with | .inl x=>A x++own1 | .inr y=>B y++own1)
    (st:=fun x=>match x with | .inl _=>.ready | .inr _=>.done) (pd:=fun x=>match x with | .inl _=>none | .inr y=>some (pd y)) ?_ ?_ ?_ ?_ ?_
  · exact fun l rc=>Takes.cons .here ht
  · rintro (x | y) <;> simp
  · intro l rc hps' ha hbd hsl hsz w fp hm hn hs1 hfp
    have hfp':∀ b ∈ fp,b ∈ c.md ∨ c.w0.heap.size ≤ b:=fun b hb=>(hfp b hb).symm
    have hs2:Sats (hp w) (exA (Φ 0) (fun x=>blk l (recL rc .ready none) :: A x) :: own) fp:=by
      rw [← List.cons_append] at hs1
      obtain ⟨f1,f2,rfl,h1,h2⟩:=Sats.append_iff.1 hs1
      exact ⟨f1,f2,rfl,⟨x0,h0,h1⟩,h2⟩
    refine (hit w hm.dropHead l fp (fun k=>exA (Φ k) (fun x=>blk l (recL rc .ready none) :: A x)) (exA Ψ (fun y=>blk l (recL rc .done (some (pd y))) :: B y)) hm.keeps hfp' hn hs2 ?_).mono ?_
    · intro k vs hk
      refine yieldsB_of (post:=SeqPost l rc Φ A Ψ B pd (k + 1)) hsl hsz (by rw [hps'];simpa using hlen vs (List.mem_of_getElem? hk)) (by rw [hps'];simpa using hps) ?_
      intro x W fp2 hB hF hx
      have:=round l rc W fp2 k x vs hsz hk hx hB hF
      rw [ha,hbd,hps']
      simpa using this
    · rintro e w' ⟨b,he,_,hk,fp',hn',hs',hf'⟩
      obtain ⟨f1,f2,rfl,h1,h2⟩:=hs'
      cases b with
      | true =>
        obtain ⟨x,hx,h1⟩:=h1
        exact ⟨.inl x,he,hx,hk,f1++f2,hn',by
          show Sats _ (blk l (recL rc .ready none) :: (A x++own1)) _
          rw [← List.cons_append]
          exact Sats.append_iff.2 ⟨f1,f2,rfl,h1,h2⟩,hf'⟩
      | false =>
        obtain ⟨y,hy,h1⟩:=h1
        exact ⟨.inr y,he,hy,hk,f1++f2,hn',by
          show Sats _ (blk l (recL rc .done (some (pd y))) :: (B y++own1)) _
          rw [← List.cons_append]
          exact Sats.append_iff.2 ⟨f1,f2,rfl,h1,h2⟩,hf'⟩
  · rintro l rc (x | y) b hx hpd
    · exact kn x (b :: D) hx
    · simp at hpd
  · rintro l rc (x | y) b j hx hpd
    · simp at hpd
    · simp only [Option.some.injEq] at hpd;subst hpd
      exact kj y (b :: D) hx
end
end Go.SL
namespace Go.Proofs.A1
open Go Go.SL
theorem idx_cases (c:UInt8):∀ r:List UInt8,(Lib.indexByte r c = -1 ∧ c ∉ r) ∨ ∃ a r',r = a++c :: r' ∧ c ∉ a ∧ Lib.indexByte r c = a.length
  | []=>.inl ⟨rfl,by simp⟩
  | x :: r => by
    by_cases h:x = c
    · subst h
      refine .inr ⟨[],r,rfl,by simp,?_⟩
      simp [Lib.indexByte]
    · rcases idx_cases c r with ⟨h1,h2⟩ | ⟨a,r',h1,h2,h3⟩
      · refine .inl ⟨?_,?_⟩
        · simp [Lib.indexByte,h,h1]
        · rw [List.mem_cons]
          rintro (e | e)
          · exact h e.symm
          · exact h2 e
      · refine .inr ⟨x :: a,r',by rw [h1];rfl,?_,?_⟩
        · rw [List.mem_cons]
          rintro (e | e)
          · exact h e.symm
          · exact h2 e
        · rw [Lib.indexByte,h3]
          simp [h]
theorem splL_none {c:UInt8}:∀ {l:List UInt8},c ∉ l → splL c l = [l]
  | [],_=>rfl
  | x :: r, h => by
    rw [List.mem_cons] at h
    rw [splL,if_neg (fun e=>h (.inl e.symm)),splL_none (fun e=>h (.inr e))];rfl
theorem splL_at {c:UInt8} {r:List UInt8}:∀ {a:List UInt8},c ∉ a → splL c (a++c :: r) = a :: splL c r
  | [],_=>by rw [List.nil_append,splL,if_pos rfl]
  | x :: a, h => by
    rw [List.mem_cons] at h
    rw [List.cons_append,splL,if_neg (fun e=>h (.inl e.symm)),splL_at (fun e=>h (.inr e))];rfl
theorem linL_nil:linL [] = []:=rfl
theorem linL_none {l:List UInt8} (h:(10:UInt8) ∉ l) (h0:l ≠ []):linL l = [l]:=by
  unfold linL
  rw [splL_none h]
  simp [h0]
theorem linL_at {a r:List UInt8} (h:(10:UInt8) ∉ a):linL (a++10 :: r) = (a++[10]) :: linL r:=by
  unfold linL
  have hne:=splL_ne 10 r
  rw [splL_at h,List.dropLast_cons_of_ne_nil hne,List.map_cons,List.cons_append,List.getLastD_cons]
  cases e:splL 10 r with
  | nil=>exact absurd e hne
  | cons x y=>rfl
def lnV (l:List UInt8):List (List Value):=(linL l).map fun x=>[Value.string (bsL x)]
theorem lnV_length (l:List UInt8):(lnV l).length = (linL l).length:=by simp [lnV]
theorem lines_c (s:ByteArray) (w:World):Gives Tryz.prog 158 [.string s] w [] (fun _:Nat=>True) (fun x=>.func (.func 196) #[] #[.pointer (some ⟨x,0,none⟩)]) (fun x=>[blk x (.cells #[.string s] 9)]):=by
  refine gives_of_tr Tryz.func158 rfl rfl ?_
  (refine s_r ?_;refine tr_new (rk_box (.of rfl) rfl) rfl (fun _ _=>?_);refine a_s rfl rfl ?_;refine n_r ?_;refine tr_val (rk_makeFunc' .nil (.cons (.of rfl) .nil)) rfl ?_;refine a_s rfl rfl ?_;refine n_t ?_;refine tr_ret ?_)
  rename_i b hb
  first | with_reducible apply tr_retM | with_reducible apply tr_endM
  case he=>exact ends1 rfl rfl
  case hR=>
    intro w' hm'
    exact gives_end b trivial (by exact .cons .here .nil) hm' rfl
set_option maxHeartbeats 2000000 in
theorem linesI_c {b1:Nat} {s:ByteArray} {w0 w:World} {md:List Nat} (hsz:s.size ≤ 5000) :
    IterO Tryz.prog 196 [] [.pointer (some ⟨b1,0,none⟩)] [blk b1 (.cells #[.string s] 9)] [exA (fun _:ByteArray=>True) fun s'=>[blk b1 (.cells #[.string s'] 9)]] (lnV (toL s)) w0 md w:=by
  intro l fp J E hB hF hn hs hy
  rw [lnV_length]
  refine givesM_of_tr Tryz.func196 rfl rfl hn hs ?_
  refine tr_block ?_
  refine tr_for (ι:=Nat × List UInt8) (fun x=>x.2.length ≤ s.size ∧ x.1 + (linL x.2).length = (linL (toL s)).length ∧ (linL (toL s)).drop x.1 = linL x.2) (fun x=>[(0,.func (.yield l) #[] #[]),(1,.pointer (some ⟨b1,0,none⟩))])
    (fun x=>[J x.1,blk b1 (.cells #[.string (bsL x.2)] 9)]) (fun x=>x.2.length) ?_ ?_
  · apply tr_start (0,toL s) ⟨by rw [size_toL];exact Nat.le_refl _,by simp,rfl⟩
    case hs1=>exact .cons rfl (.cons rfl .nil)
    case ht=>
      dsimp only
      rw [bsL_toL]
      exact .cons .here (.cons .here .nil)
  rintro ⟨k,r⟩ ⟨hr,hk,hd⟩
  dsimp only at hr hk hd ⊢
  have hsr:=bsL_size r
  by_cases h0:r = []
  · subst h0
    rw [linL_nil] at hk
    obtain rfl:k = (linL (toL s)).length:=by simpa using hk
    have hz:(bsL []).size = 0:=rfl
    (refine tr_seq ?_;refine s_r ?_;refine tr_val (rk_load1 (.of rfl) (At.lit (.there .here) rfl)) rfl ?_;refine tr_val (rk_len_string (.of rfl)) rfl ?_;refine tr_val (rk_gtr (.of rfl) (.of rfl)) rfl ?_;refine n_t ?_;refine c_d rfl (fun _=>by omega) (fun hcd=>?_);refine x_t ?_;refine tr_then_exit ?_;refine tr_blk_exit ?_)
    refine tr_shutEx (Φ:=fun _:ByteArray=>True) (A:=fun s'=>[blk b1 (.cells #[.string s'] 9)]) (bsL []) trivial (by exact .cons (.there .here) .nil) ?_
    first | with_reducible apply tr_retM | with_reducible apply tr_endM
    case he=>exact ends0 rfl
    case hR=>
      intro w' hm'
      exact gives_end true trivial (show Takes _ [J (linL (toL s)).length,exA (fun _:ByteArray=>True) fun s'=>[blk b1 (.cells #[.string s'] 9)]] _ by exact .cons (.there .here) (.cons .here .nil)) hm' rfl
  · have hpos:0 < r.length:=List.length_pos_iff.2 h0
    have hyk:∀ x R,linL r = x :: R → YieldsB Tryz.prog l [.string (bsL x)] w0 md (J k) (fun b=>bif b then J (k + 1) else E):=fun x R e=>by
      refine hy k _ ?_
      rw [e] at hd
      have:(linL (toL s))[k]? = some x:=by
        have h:=congrArg (fun l=>l[0]?) hd
        simpa using h
      unfold lnV
      rw [List.getElem?_map,this];rfl
    have hib0:=indexByte_p (bsL r) 10
    rw [toL_bsL] at hib0
    rcases idx_cases 10 r with ⟨e1,e2⟩ | ⟨a,r',e1,e2,e3⟩
    · have hib:∀ w',GivesV Tryz.prog 197 [.string (bsL r),.int .u8 10] w' (.int .i64 (-1)):=fun w'=>by
        have:=hib0 w'
        rwa [show (10:Int).toNat.toUInt8 = 10 from rfl,e1] at this
      (refine tr_seq ?_;refine s_r ?_;refine tr_val (rk_load1 (.of rfl) (At.lit (.there .here) rfl)) rfl ?_;refine tr_val (rk_len_string (.of rfl)) rfl ?_;refine tr_val (rk_gtr (.of rfl) (.of rfl)) rfl ?_;refine n_t ?_;refine c_d rfl (fun hcd=>?_) (fun _=>by omega);refine s_t ?_;refine tr_block ?_;refine s_r ?_;refine a_s rfl rfl ?_;refine n_t ?_;refine tr_seq ?_;refine s_r ?_;refine tr_val (rk_load1 (.of rfl) (At.lit (.there .here) rfl)) rfl ?_;refine tr_callV (rk_call (.of rfl) (.cons (.of rfl) (.cons (.of rfl) .nil)) inferInstance normc_) rfl (fun w' hm'=>(hib w')) ?_;refine a_s rfl rfl ?_;refine n_r ?_;refine m_v rfl rfl ?_;refine tr_val (rk_geq (.of rfl) (.of rfl)) rfl ?_;refine n_t ?_;refine c_d rfl (fun _=>by omega) (fun hcd=>?_);refine tr_region ?_;refine tr_val (rk_load1 (.of rfl) (At.lit (.there .here) rfl)) rfl ?_;refine a_s rfl rfl ?_;refine tr_store (.of rfl) (.of rfl) (.there .here) rfl rfl (okc_cons rfl okc_nil) (lenb rfl) norm_ ?_;refine n_r ?_;refine m_v rfl rfl ?_;refine m_v rfl rfl ?_)
      with_reducible apply tr_yieldB hB hF (hyk (r) ([]) (linL_none e2 h0))
      case hx=>exact Is.of rfl
      case ha=>exact .cons (.of rfl) .nil
      case hd=>rfl
      case ht=>exact Take.there .here
      intro q
      cases q with
      | false =>
        simp only [cond_false]
        (refine tr_val (rk_not (.of rfl)) rfl ?_;refine n_t ?_;refine tr_cond_t (.of rfl) ?_;refine tr_ret ?_;refine tr_blk_ret ?_;refine tr_then_ret ?_;refine tr_blk_ret ?_)
        refine tr_shutEx (Φ:=fun _:ByteArray=>True) (A:=fun s'=>[blk b1 (.cells #[.string s'] 9)]) (⟨#[]⟩) trivial (by exact .cons (.there .here) .nil) ?_
        first | with_reducible apply tr_retM | with_reducible apply tr_endM
        case he=>exact ends0 rfl
        case hR=>
          intro w' hm'
          exact gives_end false trivial (show Takes _ [E,exA (fun _:ByteArray=>True) fun s'=>[blk b1 (.cells #[.string s'] 9)]] _ by exact .cons (.there .here) (.cons .here .nil)) hm' rfl
      | true =>
        simp only [cond_true]
        (refine tr_val (rk_not (.of rfl)) rfl ?_;refine n_t ?_;refine tr_cond_f (.of rfl) ?_;refine tr_skip ?_;refine tr_blk_normal ?_;refine tr_then ?_)
        apply tr_next (k + 1,([]:List UInt8)) (show _ ∧ _ ∧ _ from ⟨Nat.zero_le _,by rw [linL_none e2 h0] at hk;exact hk,by rw [linL_none e2 h0] at hd;show (linL (toL s)).drop (k + 1) = linL [];rw [← List.drop_drop,hd];rfl⟩) (by show ([]:List UInt8).length < r.length;exact hpos)
        case hs1=>exact .cons rfl (.cons rfl .nil)
        case ht=>
          show Takes _ [J (k + 1),blk b1 (.cells #[.string ⟨#[]⟩] 9)] _
          exact .cons .here (.cons .here .nil)
    · have hib:∀ w',GivesV Tryz.prog 197 [.string (bsL r),.int .u8 10] w' (.int .i64 (a.length:Int)):=fun w'=>by
        have:=hib0 w'
        rwa [show (10:Int).toNat.toUInt8 = 10 from rfl,e3] at this
      (refine tr_seq ?_;refine s_r ?_;refine tr_val (rk_load1 (.of rfl) (At.lit (.there .here) rfl)) rfl ?_;refine tr_val (rk_len_string (.of rfl)) rfl ?_;refine tr_val (rk_gtr (.of rfl) (.of rfl)) rfl ?_;refine n_t ?_;refine c_d rfl (fun hcd=>?_) (fun _=>by omega);refine s_t ?_;refine tr_block ?_;refine s_r ?_;refine a_s rfl rfl ?_;refine n_t ?_;refine tr_seq ?_;refine s_r ?_;refine tr_val (rk_load1 (.of rfl) (At.lit (.there .here) rfl)) rfl ?_;refine tr_callV (rk_call (.of rfl) (.cons (.of rfl) (.cons (.of rfl) .nil)) inferInstance normc_) rfl (fun w' hm'=>(hib w')) ?_;refine a_s rfl rfl ?_;refine n_r ?_;refine m_v rfl rfl ?_;refine tr_val (rk_geq (.of rfl) (.of rfl)) rfl ?_;refine n_t ?_;refine c_d rfl (fun hcd=>?_) (fun _=>by omega))
      have hal:a.length + 1 ≤ r.length:=by rw [e1];simp
      have hx1:(bsL r).extract 0 ((a.length:Int) + 1).toNat = bsL (a++[10]):=toL_inj (by
        rw [toL_extract,toL_bsL,toL_bsL,show ((a.length:Int) + 1).toNat = a.length + 1 by omega,e1,List.drop_zero,List.take_append,List.take_of_length_le (by omega),Nat.add_sub_cancel_left]
        rfl)
      have hx2:(bsL r).extract ((a.length:Int) + 1).toNat (bsL r).size = bsL r':=toL_inj (by
        rw [toL_extract,toL_bsL,toL_bsL,show ((a.length:Int) + 1).toNat = a.length + 1 by omega,hsr,List.take_of_length_le (Nat.le_refl _),e1,List.drop_append,List.drop_of_length_le (by omega),Nat.add_sub_cancel_left]
        rfl)
      with_reducible refine tr_draw 9 (by kernel_rfl) ?_
      (refine any_val (rk_load1 (.of rfl) (At.lit (.there .here) rfl)) rfl ?_;refine a_m rfl rfl ?_;refine any_val (rk_add (.of rfl) (.of rfl) (ini (by omega))) rfl ?_;refine any_val (rk_sliceS_h (.of rfl) (.of rfl) (by omega) (by omega)) rfl ?_;refine any_val (rk_load1 (.of rfl) (At.lit (.there .here) rfl)) rfl ?_;refine a_m rfl rfl ?_;refine any_val (rk_add (.of rfl) (.of rfl) (ini (by omega))) rfl ?_;refine any_val (rk_sliceS_l (.of rfl) (.of rfl) (by omega) (by omega)) rfl ?_;refine any_val (rk_assign (.of rfl)) rfl ?_)
      with_reducible refine any_end ?_
      rw [hx1,hx2]
      (refine tr_store (.of rfl) (.of rfl) (.there .here) rfl rfl (okc_cons rfl okc_nil) (lenb rfl) norm_ ?_;refine n_r ?_;refine m_v rfl rfl ?_;refine m_v rfl rfl ?_)
      with_reducible apply tr_yieldB hB hF (hyk (a++[10]) (linL r') ((congrArg linL e1).trans (linL_at e2)))
      case hx=>exact Is.of rfl
      case ha=>exact .cons (.of rfl) .nil
      case hd=>rfl
      case ht=>exact Take.there .here
      intro q
      cases q with
      | false =>
        simp only [cond_false]
        (refine tr_val (rk_not (.of rfl)) rfl ?_;refine n_t ?_;refine tr_cond_t (.of rfl) ?_;refine tr_ret ?_;refine tr_blk_ret ?_;refine tr_then_ret ?_;refine tr_blk_ret ?_)
        refine tr_shutEx (Φ:=fun _:ByteArray=>True) (A:=fun s'=>[blk b1 (.cells #[.string s'] 9)]) (bsL r') trivial (by exact .cons (.there .here) .nil) ?_
        first | with_reducible apply tr_retM | with_reducible apply tr_endM
        case he=>exact ends0 rfl
        case hR=>
          intro w' hm'
          exact gives_end false trivial (show Takes _ [E,exA (fun _:ByteArray=>True) fun s'=>[blk b1 (.cells #[.string s'] 9)]] _ by exact .cons (.there .here) (.cons .here .nil)) hm' rfl
      | true =>
        simp only [cond_true]
        (refine tr_val (rk_not (.of rfl)) rfl ?_;refine n_t ?_;refine tr_cond_f (.of rfl) ?_;refine tr_skip ?_;refine tr_blk_normal ?_;refine tr_then ?_)
        apply tr_next (k + 1,r') (show _ ∧ _ ∧ _ from ⟨by show r'.length ≤ s.size;rw [e1] at hr;simp at hr;omega,by rw [e1,linL_at e2] at hk;show k + 1 + (linL r').length = _;rw [List.length_cons] at hk;omega,by rw [e1,linL_at e2] at hd;show (linL (toL s)).drop (k + 1) = linL r';rw [← List.drop_drop,hd];rfl⟩) (by show r'.length < r.length;rw [e1];simp;omega)
        case hs1=>exact .cons rfl (.cons rfl .nil)
        case ht=>exact .cons .here (.cons .here .nil)
end Go.Proofs.A1
