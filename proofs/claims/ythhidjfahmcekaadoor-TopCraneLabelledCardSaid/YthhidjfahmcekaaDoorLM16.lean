/- Parts of the proof: DX3. -/
import Derived.Test.YthhidjfahmcekaaDoorLM15
import Derived.Test.YthhidjfahmcekaaDoorLM11
import Derived.Test.YthhidjfahmcekaaDoorLM06
set_option linter.unusedSectionVars false
set_option linter.unusedVariables false
set_option linter.unusedSimpArgs false
namespace Go.Proofs.A1
open Go Go.SL
theorem gpL_at {es:List En}:∀ {n g:Nat} {x:Int × Int × Int},(gpL es n)[g]? = some x → ∃ k,k + 1 < n ∧ to es k < fr es (k + 1) ∧ x = ((k:Int),to es k,fr es (k + 1)) ∧ g = (gpL es (k + 1)).length
  | 0,g,x,h=>by simp [gpL] at h
  | n + 1, g, x, h => by
    rw [gpL] at h
    by_cases hl:g < (gpL es n).length
    · rw [List.getElem?_append_left hl] at h
      obtain ⟨k,h1,h2⟩:=gpL_at h
      exact ⟨k,by omega,h2⟩
    · rw [List.getElem?_append_right (by omega)] at h
      split at h
      · rename_i hc
        obtain ⟨k,rfl⟩:∃ k,n = k + 1:=⟨n - 1,by omega⟩
        have hg:g - (gpL es (k + 1)).length = 0:=by
          apply Classical.byContradiction
          intro h0
          rw [List.getElem?_eq_none (by simp;omega)] at h
          cases h
        rw [hg] at h
        simp only [List.getElem?_cons_zero,Option.some.injEq] at h
        refine ⟨k,by omega,hc.2,?_,by omega⟩
        rw [← h]
        simp
      · simp at h
theorem lab_of {r:Rt} {n:Int} (hr:RtOk r) (h:0 ≤ n ∧ n < dayF r):lofF r n = lblF r n ∧ lofE r n = 0:=by
  have hz:lofE r n = 0:=lofE_zero.2 ⟨hr,h⟩
  exact ⟨by unfold lofF;rw [if_pos hz],hz⟩
theorem lab_add {r:Rt} {a k:Int} (hr:RtOk r) (h0:0 ≤ a) (hk:0 ≤ k ∧ k ≤ 10000000) (h1:a + k < dayF r):addX r (lblF r a) k = lblF r (a + k) ∧ addE r (lblF r a) k = 0:=by
  obtain ⟨hl,hf⟩:=lbl_frm (n:=a) hr ⟨h0,by omega⟩
  have hz:addE r (lblF r a) k = 0:=addE_zero.2 ⟨hl,by omega,by omega⟩
  refine ⟨?_,hz⟩
  unfold addX
  rw [if_pos hz]
  unfold addF
  rw [hf,Int.emod_eq_of_lt (by omega) h1]
theorem gpL_few (es:List En):∀ n,(gpL es n).length ≤ n
  | 0=>Nat.le_refl _
  | n + 1 => by
    have:=gpL_few es n
    rw [gpL,List.length_append]
    split
    · rw [List.length_singleton];omega
    · rw [List.length_nil];omega
theorem flat_at {α:Type} {f:α → List Value} {sz:Nat} (hf:∀ x,(f x).length = sz):∀ (l:List α) (i:Nat) (h:i < l.length) (cur:List Value),cellsAt (l.flatMap f++cur) (i * sz) sz = f l[i]
  | x :: r, 0, _, cur => by
    rw [cellsAt_eq,Nat.zero_mul,List.drop_zero,List.flatMap_cons,List.append_assoc,List.take_append_of_le_length (by rw [hf];exact Nat.le_refl _),List.take_of_length_le (by rw [hf];exact Nat.le_refl _)]
    rfl
  | x :: r, i + 1, h, cur => by
    have ih:=flat_at hf r i (by rw [List.length_cons] at h;omega) cur
    rw [List.getElem_cons_succ,← ih,cellsAt_eq,cellsAt_eq,List.flatMap_cons,List.append_assoc,show (i + 1) * sz = (f x).length + i * sz by rw [hf,Nat.succ_mul];omega,List.drop_append,List.drop_of_length_le (by omega:(f x).length ≤ (f x).length + i * sz),Nat.add_sub_cancel_left,List.nil_append]
theorem spl_at {es:List En} {n i:Nat} (h:i < n) (cur:List Value):cellsAt ((spL es n).flatMap duoV++cur) (i * 2) 2 = [.int .i64 (fr es i),.int .i64 (to es i)]:=by
  have:=flat_at (f:=duoV) (sz:=2) (fun _=>rfl) (spL es n) i (by rw [spL_length];exact h) cur
  rw [this]
  simp [spL,duoV]
theorem spl_flat {es:List En} {n:Nat}:((spL es n).flatMap duoV).length = n * 2:=by
  have:∀ l:List (Int × Int),(l.flatMap duoV).length = l.length * 2:=fun l=>by
    induction l with
    | nil=>rfl
    | cons x l ih=>rw [List.flatMap_cons,List.length_append,ih,List.length_cons];show 2 + _ = _;omega
  rw [this,spL_length]
theorem word_bytes {s:Stm} (h:StOk s):∀ y ∈ wordF s,0 ≤ y ∧ y ≤ 255:=by
  intro y hy
  unfold wordF at hy
  rw [List.mem_append] at hy
  rcases hy with hy | hy
  · exact w7_bytes h y hy
  · simp only [List.mem_cons,List.not_mem_nil,or_false] at hy
    rcases hy with rfl | rfl | rfl
    · exact parF_byte _
    · decide
    · decide
theorem fgn_bytes {b:Int} (hb:0 ≤ b ∧ b ≤ 255) {L:List Stm} (h:∀ x ∈ L,StOk x):∀ y ∈ fgnL b L,0 ≤ y ∧ y ≤ 255:=by
  intro y hy
  unfold fgnL at hy
  obtain ⟨l,hl,hy⟩:=List.mem_flatten.1 hy
  obtain ⟨x,hx,rfl⟩:=List.mem_map.1 hl
  rcases List.mem_append.1 hy with hy | hy
  · exact word_bytes (h x hx) y hy
  · rw [List.mem_singleton.1 hy];exact hb
theorem fru_fst:∀ (L:List Stm) (p:Nat),(fruL L p).map (·.1) = L
  | [],_=>rfl
  | x :: r,p=>by rw [fruL,List.map_cons,fru_fst r]
theorem natsV_map (l:List Nat):natsV l = l.map fun (n:Nat)=>Value.int .i64 (n:Int):=by
  induction l with
  | nil=>rfl
  | cons x l ih =>
    show [Value.int .i64 (x:Int)]++natsV l = _
    rw [ih];rfl
theorem fru_at {L:List Stm} {q:Nat} (h:q < L.length) (cur:List Value):(natsV ((fruL L 0).map (·.2))++cur)[q * 1]? = some (.int .i64 ((11 * q:Nat):Int)):=by
  have hl:q < (fruL L 0).length:=by rw [fru_len];exact h
  rw [Nat.mul_one,natsV_map,List.getElem?_append_left (by rw [List.length_map,List.length_map];exact hl),List.getElem?_map,List.getElem?_map,List.getElem?_eq_getElem hl,fru_get L 0 q h]
  simp
theorem cells_1 {cs r:List Value} {o n:Nat} {v:Value} (h:cellsAt cs o (n + 1) = v :: r):cs[o]? = some v:=by
  rw [cellsAt_eq] at h
  have:=congrArg (fun l=>l[0]?) h
  rw [List.getElem?_take_of_lt (by omega),List.getElem?_drop] at this
  simpa using this
theorem cells_2 {cs r:List Value} {o n:Nat} {u v:Value} (h:cellsAt cs o (n + 2) = u :: v :: r):cs[o + 1]? = some v:=by
  rw [cellsAt_eq] at h
  have:=congrArg (fun l=>l[1]?) h
  rw [List.getElem?_take_of_lt (by omega),List.getElem?_drop] at this
  simpa using this
def stA (r:Rt) (es:List En) (n:Int) (k:Nat):Stm:=⟨r,lblF r (n + fr es k),(k:Nat)⟩
def stL (r:Rt) (es:List En) (n:Int) (m:Nat):List Stm:=(List.range m).map (stA r es n)
theorem stL_len (r:Rt) (es:List En) (n:Int) (m:Nat):(stL r es n m).length = m:=by simp [stL]
theorem stL_succ (r:Rt) (es:List En) (n:Int) (m:Nat):stL r es n (m + 1) = stL r es n m++[stA r es n m]:=by unfold stL;rw [List.range_succ,List.map_append];rfl
theorem rk_rem32 {P:Program} {c:Cx} {sl:Slots} {hs:List Asn} {dst:Option Tmp} {ty:TypeId} {pos:String} {af:Array Edge} {g:Option (Nat × Bool)} {t u:TypeId} {x y:Operand} {a b:Int} (hx:Is sl x (.int .u32 a)) (hy:Is sl y (.int .u32 b)) (h0:0 ≤ a) (hb:b ≠ 0) :
    RunV P c sl hs ⟨dst,.binOp .rem t x y u,ty,pos,af,g⟩ (.int .u32 (a % b)):=
  rk_bin hx hy fun w=>by
    simp [eqGuard_int,binOp,Op.intDiv,hb,Int.tmod_eq_emod_of_nonneg h0]
set_option maxHeartbeats 4000000 in
theorem labelled_law {sv:Value} {es:List En} (r:Rt) (n0 n1:Int) {w:World} (h1:Rd w sv 6 (ensL es)) (hn0:0 ≤ n0 ∧ n0 ≤ 4294967295) (hn1:0 ≤ n1 ∧ n1 ≤ 4294967295) (hG:GlobR w) (hN:Glob w):GivesV Tryd.prog 4 [.agg #[sv],.agg r.cells.toArray,.agg #[.int .u32 n0,.int .u32 n1]] w (.bool true):=by
  have hrq:∀ w',GivesV Tryd.prog 16 [.agg r.cells.toArray] w' (.int .i64 (rateF r)):=fun w'=>rateQ_c r w'
  have hrc:r.cells = [.int .i64 r.fr,.bool r.dr]:=rfl
  rw [hrc] at hrq ⊢
  have h1':=h1
  obtain ⟨a,cap,bb,o,rfl,hcap,hmax,ha,hc⟩:=h1'
  rw [ensL_length] at *
  unfold maxLen at hmax
  have eb:IntKind.u8.wrap (n1 % 256) = n1 % 256:=u8w (by omega)
  have ef:IntKind.i64.wrap (n0 % 2000001) = n0 % 2000001:=i64w (by omega)
  refine givesV_of_tr Tryd.func4 rfl rfl ?_
  (refine s_r ?_;refine tr_new (rk_box (.of rfl) rfl) rfl (fun _ _=>?_);refine tr_new (rk_box (.of rfl) rfl) rfl (fun _ _=>?_);refine tr_new (rk_box (.of rfl) rfl) rfl (fun _ _=>?_);refine a_s rfl rfl ?_;refine n_r ?_;refine tr_val (rk_indexAddrA (.of rfl) (.of rfl) (by omega) (by omega) norm1_) rfl ?_;refine tr_val (rk_load1 (.of rfl) (At.lit .here rfl)) rfl ?_)
  refine tr_val (rk_rem32 (.of rfl) (.of rfl) hn1.1 (by decide)) rfl ?_
  (refine tr_val (rk_conv (.of rfl)) rfl ?_;refine a_s rfl rfl ?_;refine n_t ?_;refine tr_seq ?_;refine s_r ?_)
  rw [eb]
  (refine tr_callV (rk_call (.of rfl) .nil inferInstance normc_) rfl (fun w' hm'=>(craneD_c w' (GlobR.keeps hG (Mem.keeps hm')) (Glob.keeps hN (Mem.keeps hm')))) ?_;refine tr_val (rk_not (.of rfl)) rfl ?_;refine m_v rfl rfl ?_;refine tr_vG1 rfl rfl inferInstance (fun hg hgp=>(rk_loadB (.of rfl) (.there (.there .here)) norm_ (by rfl))) rfl ?_;refine tr_callVG1 rfl rfl (fun hg=>(rk_call (.of rfl) (.cons (.ofg hg rfl) .nil) inferInstance normc_)) rfl (fun hg w' hm'=>(brief_c (Rd.keeps h1 (Mem.keeps hm')))) ?_;refine tr_vG1 rfl rfl inferInstance (fun hg hgp=>(rk_not (.ofg hgp rfl))) rfl ?_;refine tr_val (rk_pick_or (.of rfl) rfl) rfl ?_;refine m_v rfl rfl ?_;refine tr_vG1 rfl rfl inferInstance (fun hg hgp=>(rk_fieldAddr (.of rfl) norm0_)) rfl ?_;refine tr_vG1 rfl rfl inferInstance (fun hg hgp=>(rk_load1 (.ofg hg rfl) (At.lit (.there (.there .here)) rfl))) rfl ?_;refine tr_vG1 rfl rfl inferInstance (fun hg hgp=>(rk_len_slice (.ofg hg rfl))) rfl ?_;refine tr_vG1 rfl rfl inferInstance (fun hg hgp=>(rk_gtr (.ofg hg rfl) (.of rfl))) rfl ?_;refine tr_val (rk_pick_or (.of rfl) rfl) rfl ?_;refine m_v rfl rfl ?_;refine tr_vG1 rfl rfl inferInstance (fun hg hgp=>(rk_loadB (.of rfl) (.there .here) norm_ (by rfl))) rfl ?_;refine tr_callVG1 rfl rfl (fun hg=>(rk_call (.of rfl) (.cons (.ofg hg rfl) .nil) inferInstance normc_)) rfl (fun hg w' hm'=>(hrq w')) ?_;refine tr_vG1 rfl rfl inferInstance (fun hg hgp=>(rk_neq (.ofg hg rfl) (.of rfl))) rfl ?_;refine tr_val (rk_pick_or (.of rfl) rfl) rfl ?_;refine m_v rfl rfl ?_;refine v_g rfl rfl rfl rfl ?_;refine tr_vG1 rfl rfl inferInstance (fun hg hgp=>(rk_eql (.ofg hg rfl) (.of rfl))) rfl ?_;refine tr_val (rk_pick_or (.of rfl) rfl) rfl ?_;refine m_v rfl rfl ?_;refine v_g rfl rfl rfl rfl ?_;refine tr_vG1 rfl rfl inferInstance (fun hg hgp=>(rk_eql (.ofg hg rfl) (.of rfl))) rfl ?_;refine tr_val (rk_pick_or (.of rfl) rfl) rfl ?_;refine n_t ?_;refine c_b rfl (fun hcd=>?_) (fun hcd=>?_);refine s_r ?_;refine tr_callV (rk_call (.of rfl) .nil inferInstance normc_) rfl (fun w' hm'=>(craneD_c w' (GlobR.keeps hG (Mem.keeps hm')) (Glob.keeps hN (Mem.keeps hm')))) ?_;refine a_s rfl rfl ?_;refine n_t ?_;refine r_t ?_;refine tr_retE rfl (ends1 rfl rfl) ?_;rotate_left;refine s_t ?_;refine s_r ?_;refine tr_val (rk_indexAddrA (.of rfl) (.of rfl) (by omega) (by omega) norm1_) rfl ?_;refine tr_val (rk_load1 (.of rfl) (At.lit .here rfl)) rfl ?_;rotate_right)
  · rfl
  rename_i b3 hb3 b4 hb4 b5 hb5
  obtain ⟨⟨⟨⟨⟨_,hbf⟩,hf8⟩,hrz⟩,_⟩,_⟩:=hcd
  replace hrz:=Decidable.not_not.1 hrz
  obtain ⟨_,hck,hen⟩:=briefB_iff hbf
  have hs:=Sound.of hck
  have hr:=rateF_zero.1 hrz
  have hdp:=day_pos hr
  refine tr_val (rk_rem32 (.of rfl) (.of rfl) hn0.1 (by decide)) rfl ?_
  (refine tr_val (rk_conv (.of rfl)) rfl ?_;refine a_s rfl rfl ?_;refine n_r ?_;refine tr_val (rk_loadB (.of rfl) (.there (.there .here)) norm_ (by rfl)) rfl ?_)
  rw [ef]
  obtain ⟨fs,hfs⟩:∃ fs,fs = n0 % 2000001:=⟨_,rfl⟩
  have hfs0:0 ≤ fs ∧ fs ≤ 2000000:=by omega
  obtain ⟨fb,hfb⟩:∃ fb,fb = n1 % 256:=⟨_,rfl⟩
  have hfb0:0 ≤ fb ∧ fb ≤ 255:=by omega
  rw [← hfs,← hfb]
  skip
  with_reducible apply tr_call
  case hr=>exact rk_call (.of rfl) (.cons (.of rfl) .nil) inferInstance normc_
  case hd=>rfl
  case ht=>exact Takes.nil
  case hc=>
    intro w1 fp hm1 _ hs1
    obtain rfl:fp = []:=hs1
    exact craneS_c (h1.keeps hm1.keeps) (by omega)
  intro v1 _
  dsimp only [id_eq,List.cons_append,List.nil_append]
  skip
  with_reducible apply tr_call
  case hr=>exact rk_call (.of rfl) (.cons (.of rfl) .nil) inferInstance normc_
  case hd=>rfl
  case ht=>exact Takes.nil
  case hc=>
    intro w1 fp hm1 _ hs1
    obtain rfl:fp = []:=hs1
    exact times_c (rdEn (E:=115) (v:=v1) hm1 (by exact .here)) (hN.keeps hm1.keeps)
  intro tv _
  dsimp only [id_eq,List.cons_append,List.nil_append]
  rw [hck,show tmL es = spL es es.length by unfold tmL;rw [if_pos hck],spL_length]
  (refine m_v rfl rfl ?_;refine tr_val (rk_extract (.of rfl) rfl) rfl ?_;refine tr_val (rk_extract (.of rfl) rfl) rfl ?_;refine a_s rfl rfl ?_;refine a_s rfl rfl ?_;refine n_r ?_;refine tr_val (rk_loadB (.of rfl) (.there (.there (.there (.there .here)))) norm_ (by rfl)) rfl ?_)
  with_reducible apply tr_call
  case hr=>exact rk_call (.of rfl) (.cons (.of rfl) .nil) inferInstance normc_
  case hd=>rfl
  case ht=>exact Takes.nil
  case hc=>
    intro w1 fp hm1 _ hs1
    obtain rfl:fp = []:=hs1
    exact craneS_c (h1.keeps hm1.keeps) (by omega)
  intro v2 _
  dsimp only [id_eq,List.cons_append,List.nil_append]
  skip
  with_reducible apply tr_call
  case hr=>exact rk_call (.of rfl) (.cons (.of rfl) .nil) inferInstance normc_
  case hd=>rfl
  case ht=>exact Takes.nil
  case hc=>
    intro w1 fp hm1 _ hs1
    obtain rfl:fp = []:=hs1
    exact gapsX_c (rdEn (E:=115) (v:=v2) hm1 (by exact .here)) (hN.keeps hm1.keeps)
  intro gv _
  dsimp only [id_eq,List.cons_append,List.nil_append]
  rw [hck,show gpsL es = gpL es es.length by unfold gpsL;rw [if_pos hck]]
  obtain ⟨gn,hgn⟩:∃ gn,gn = (gpL es es.length).length:=⟨_,rfl⟩
  have hgl:gn ≤ es.length:=by rw [hgn];exact gpL_few es es.length
  rw [← hgn]
  refine tr_rowSl (E:=23) (sz:=2) (v:=tv) (by exact Take.there (.there .here)) fun at_ ct e=>?_
  subst e
  refine tr_rowSl (E:=93) (sz:=3) (v:=gv) (by exact .here) fun ag cg e=>?_
  subst e
  (refine m_v rfl rfl ?_;refine tr_val (rk_extract (.of rfl) rfl) rfl ?_;refine tr_val (rk_extract (.of rfl) rfl) rfl ?_;refine a_s rfl rfl ?_;refine a_s rfl rfl ?_;refine n_t ?_;refine tr_seq ?_;refine s_r ?_;refine m_v rfl rfl ?_;refine tr_val (rk_neq (.of rfl) (.of rfl)) rfl ?_;refine m_v rfl rfl ?_;refine v_g rfl rfl rfl rfl ?_;refine tr_vG1 rfl rfl inferInstance (fun hg hgp=>(rk_neq (.ofg hg rfl) (.of rfl))) rfl ?_;refine tr_val (rk_pick_or (.of rfl) rfl) rfl ?_;refine m_v rfl rfl ?_;refine v_g rfl rfl rfl rfl ?_;refine tr_vG1 rfl rfl inferInstance (fun hg hgp=>(rk_len_slice (.ofg hg rfl))) rfl ?_;refine tr_vG1 rfl rfl inferInstance (fun hg hgp=>(rk_fieldAddr (.of rfl) norm0_)) rfl ?_;refine tr_vG1 rfl rfl inferInstance (fun hg hgp=>(rk_load1 (.ofg hg rfl) (At.lit (.there (.there (.there (.there (.there (.there .here)))))) rfl))) rfl ?_;refine tr_vG1 rfl rfl inferInstance (fun hg hgp=>(rk_len_slice (.ofg hg rfl))) rfl ?_;refine tr_vG1 rfl rfl inferInstance (fun hg hgp=>(rk_neq (.ofg hg rfl) (.ofg hg rfl))) rfl ?_;refine tr_val (rk_pick_or (.of rfl) rfl) rfl ?_;refine m_v rfl rfl ?_;refine v_g rfl rfl rfl rfl ?_;refine tr_vG1 rfl rfl inferInstance (fun hg hgp=>(rk_len_slice (.ofg hg rfl))) rfl ?_;refine v_g rfl rfl rfl rfl ?_;refine tr_vG1 rfl rfl inferInstance (fun hg hgp=>(rk_len_slice (.ofg hg rfl))) rfl ?_;refine tr_vG1 rfl rfl inferInstance (fun hg hgp=>(rk_gtr (.ofg hg rfl) (.ofg hg rfl))) rfl ?_;refine tr_val (rk_pick_or (.of rfl) rfl) rfl ?_;refine n_t ?_;refine c_b rfl (fun _=>by omega) (fun hcd=>?_);refine s_t ?_;refine s_r ?_;refine a_s rfl rfl ?_;refine n_t ?_;refine tr_seq ?_;refine s_r ?_;refine m_v rfl rfl ?_;refine tr_val (rk_len_slice (.of rfl)) rfl ?_;refine m_v rfl rfl ?_;refine n_t ?_;refine tr_block ?_)
  skip
  obtain ⟨n,hn⟩:∃ n,es.length = n:=⟨_,rfl⟩
  rw [hn]
  refine tr_rowNil 5 1 ?_
  refine tr_for (ι:=Nat × Value) (fun y=>y.1 ≤ n) (fun y=>[(109,.int .i64 (y.1:Nat)),(108,.int .i64 (n:Nat)),(107,.slice at_ n ct),(13,y.2),(9,.slice at_ n ct),(11,.slice ag gn cg),(8,.int .i64 fs),(7,.int .u8 fb),(3,.pointer (some ⟨b3,0,none⟩)),(4,.pointer (some ⟨b4,0,none⟩))]) (fun y=>[row 5 1 y.2 (11 * y.1) (bytsV (fgnL fb (stL r es fs y.1))),row 23 2 (.slice at_ n ct) n ((spL es n).flatMap duoV),row 93 3 (.slice ag gn cg) gn ((gpL es n).flatMap triV),blk b3 (.cells #[.slice a n cap] 57 (0,0)),blk b4 (.cells #[.int .i64 r.fr,.bool r.dr] 59 (0,0))]) (fun y=>n - y.1) ?_ ?_
  · apply tr_start (0,.slice none 0 0) (Nat.zero_le _)
    case hs1=>exact .cons rfl (.cons rfl (.cons rfl (.cons rfl (.cons rfl (.cons rfl (.cons rfl (.cons rfl (.cons rfl (.cons rfl .nil)))))))))
    case ht=>
      show Takes _ [row 5 1 (.slice none 0 0) 0 [],row 23 2 (.slice at_ n ct) n ((spL es n).flatMap duoV),row 93 3 (.slice ag gn cg) gn ((gpL es n).flatMap triV),blk b3 (.cells #[.slice a n cap] 57 (0,0)),blk b4 (.cells #[.int .i64 r.fr,.bool r.dr] 59 (0,0))] _
      exact .cons .here (.cons (.there (.there .here)) (.cons .here (.cons (.there (.there (.there (.there .here)))) (.cons (.there (.there (.there .here))) .nil))))
  rintro ⟨i,v⟩ hi
  dsimp only at hi ⊢
  by_cases hin:i < n
  · have hfr:=hs.fr_nn (k:=i) (by omega)
    have hte:=hs.enE_ge (k:=i) (by omega)
    have hln:=(hs.all.ok i (by omega)).ln
    have htl:to es i = fr es i + (nth es i).ln:=rfl
    have ha':=ha (ensL_ne (k:=i) (by omega))
    have hcell:=(hc i _ (ensL_get (by omega))).2
    unfold En.cells at hcell
    have hc4:=hcell 4 _ rfl
    have hq:=fun cur=>spl_at (es:=es) (n:=n) hin cur
    obtain ⟨hlA,hfA⟩:=lbl_frm (n:=fs + fr es i) hr ⟨by omega,by omega⟩
    obtain ⟨hA1,hA2⟩:=lab_of (n:=fs + fr es i) hr ⟨by omega,by omega⟩
    obtain ⟨hB1,hB2⟩:=lab_of (n:=fs + to es i) hr ⟨by omega,by omega⟩
    obtain ⟨hC1,hC2⟩:=lab_add (a:=fs + fr es i) (k:=(nth es i).ln) hr (by omega) ⟨by omega,by omega⟩ (by omega)
    have hst:StOk (stA r es fs i):=⟨hlA,by show (0:Int) ≤ (i:Nat) ∧ ((i:Nat):Int) ≤ 65535;omega⟩
    have hla:∀ w',GlobR w' → GivesV Tryd.prog 20 [.agg r.cells.toArray,.int .i64 (fs + fr es i)] w' (.tuple #[.agg (lblF r (fs + fr es i)).cells.toArray,.int .i64 0]):=fun w' h=>by
      have h2:=labelOf_c r (fs + fr es i) w' h
      rw [hA1,hA2] at h2
      exact h2
    have hlb:∀ w',GlobR w' → GivesV Tryd.prog 20 [.agg r.cells.toArray,.int .i64 (fs + to es i)] w' (.tuple #[.agg (lblF r (fs + to es i)).cells.toArray,.int .i64 0]):=fun w' h=>by
      have h2:=labelOf_c r (fs + to es i) w' h
      rw [hB1,hB2] at h2
      exact h2
    have had:∀ w',GlobR w' → GivesV Tryd.prog 21 [.agg r.cells.toArray,.agg (lblF r (fs + fr es i)).cells.toArray,.int .i64 (nth es i).ln] w' (.tuple #[.agg (lblF r (fs + to es i)).cells.toArray,.int .i64 0]):=fun w' h=>by
      have h2:=addedX_c r (lblF r (fs + fr es i)) (nth es i).ln w' h
      rw [hC1,hC2,show fs + fr es i + (nth es i).ln = fs + to es i by omega] at h2
      exact h2
    have hwr:∀ w',GlobR w' → GivesV Tryd.prog 22 [.agg (stA r es fs i).cells.toArray] w' (.tuple #[.agg (wcells (wordF (stA r es fs i))).toArray,.int .i64 0]):=fun w' h=>by
      have h2:=written_c (stA r es fs i) w' h
      unfold wrtF at h2
      rw [stmE_zero.2 hst,if_pos rfl] at h2
      exact h2
    have hsn:fgnL fb (stL r es fs (i + 1)) = fgnL fb (stL r es fs i)++(wordF (stA r es fs i)++[fb]):=by rw [stL_succ,fgn_snoc]
    have hwl:(wordF (stA r es fs i)).length = 10:=rfl
    rw [show (stA r es fs i).cells = [.int .i64 r.fr,.bool r.dr,.int .i64 (lblF r (fs + fr es i)).h,.int .i64 (lblF r (fs + fr es i)).m,.int .i64 (lblF r (fs + fr es i)).s,.int .i64 (lblF r (fs + fr es i)).f,.int .i64 (i:Nat)] from rfl] at hwr
    generalize wordF (stA r es fs i) = W at hwr hsn hwl
    generalize lblF r (fs + fr es i) = A at hla had hwr
    generalize lblF r (fs + to es i) = B at hlb had
    obtain ⟨y0,y1,y2,y3,y4,y5,y6,y7,y8,y9,rfl⟩:∃ y0 y1 y2 y3 y4 y5 y6 y7 y8 y9:Int,W = [y0,y1,y2,y3,y4,y5,y6,y7,y8,y9]:=⟨_,_,_,_,_,_,_,_,_,_,tenD hwl⟩
    simp only [wcells,List.map_cons,List.map_nil] at hwr
    rw [hrc] at hla hlb had
    rw [show A.cells = [.int .i64 A.h,.int .i64 A.m,.int .i64 A.s,.int .i64 A.f] from rfl] at hla had
    rw [show B.cells = [.int .i64 B.h,.int .i64 B.m,.int .i64 B.s,.int .i64 B.f] from rfl] at hlb had
    refine tr_rowOpen (E:=23) (sz:=2) (v:=.slice at_ n ct) (by exact Take.there .here) (show 0 < n by omega) ?_
    intro gt ct' curt hev hct hmt hzt hxt
    cases hev
    have hq:=hq curt
    (refine s_r ?_;refine tr_val (rk_lss (.of rfl) (.of rfl)) rfl ?_;refine n_t ?_;refine tr_seq ?_;refine c_d rfl (fun hcd=>?_) (fun _=>by omega);refine s_t ?_;refine tr_seq ?_;refine tr_block ?_;refine s_r ?_;refine m_v rfl rfl ?_;refine tr_val (rk_indexAddr (.of rfl) (.of rfl) rfl (by omega) hcd norm1_) rfl ?_;refine tr_val (rk_loadB (.of rfl) .here hq rfl) rfl ?_;refine tr_new (rk_alloc rfl) rfl (fun _ _=>?_);refine a_s rfl rfl ?_;refine tr_store (.of rfl) (.of rfl) .here rfl rfl (okc_cons rfl (okc_cons rfl okc_nil)) (lenb rfl) norm_ ?_;refine n_r ?_;refine tr_val (rk_loadB (.of rfl) (.there (.there (.there (.there (.there .here))))) norm_ (by rfl)) rfl ?_;refine m_v rfl rfl ?_;refine f_a rfl rfl norm0_ ?_;refine tr_val (rk_load1 (.of rfl) (At.lit .here rfl)) rfl ?_;refine tr_val (rk_add (.of rfl) (.of rfl) (ini (by omega))) rfl ?_;refine tr_callV (rk_call (.of rfl) (.cons (.of rfl) (.cons (.of rfl) .nil)) inferInstance normc_) rfl (fun w' hm'=>(hla w' (GlobR.keeps hG (Mem.keeps hm')))) ?_;refine m_v rfl rfl ?_;refine tr_val (rk_extract (.of rfl) rfl) rfl ?_;refine tr_val (rk_extract (.of rfl) rfl) rfl ?_;refine tr_new (rk_alloc rfl) rfl (fun _ _=>?_);refine tr_store (.of rfl) (.of rfl) .here rfl rfl (okc_cons rfl (okc_cons rfl (okc_cons rfl (okc_cons rfl okc_nil)))) (lenb rfl) norm_ ?_;refine a_s rfl rfl ?_;refine n_r ?_;refine tr_val (rk_loadB (.of rfl) (.there (.there (.there (.there (.there (.there .here)))))) norm_ (by rfl)) rfl ?_;refine m_v rfl rfl ?_;refine f_a rfl rfl norm0_ ?_;refine tr_val (rk_load1 (.of rfl) (At.lit (.there .here) rfl)) rfl ?_;refine tr_val (rk_add (.of rfl) (.of rfl) (ini (by omega))) rfl ?_;refine tr_callV (rk_call (.of rfl) (.cons (.of rfl) (.cons (.of rfl) .nil)) inferInstance normc_) rfl (fun w' hm'=>(hlb w' (GlobR.keeps hG (Mem.keeps hm')))) ?_;refine m_v rfl rfl ?_;refine tr_val (rk_extract (.of rfl) rfl) rfl ?_;refine tr_val (rk_extract (.of rfl) rfl) rfl ?_;refine tr_new (rk_alloc rfl) rfl (fun _ _=>?_);refine tr_store (.of rfl) (.of rfl) .here rfl rfl (okc_cons rfl (okc_cons rfl (okc_cons rfl (okc_cons rfl okc_nil)))) (lenb rfl) norm_ ?_;refine a_s rfl rfl ?_;refine n_t ?_;refine tr_seq ?_;refine s_r ?_;refine m_v rfl rfl ?_;refine tr_val (rk_neq (.of rfl) (.of rfl)) rfl ?_;refine m_v rfl rfl ?_;refine v_g rfl rfl rfl rfl ?_;refine tr_vG1 rfl rfl inferInstance (fun hg hgp=>(rk_neq (.ofg hg rfl) (.of rfl))) rfl ?_;refine tr_val (rk_pick_or (.of rfl) rfl) rfl ?_;refine n_t ?_;refine tr_cond_f (.of rfl) ?_;refine s_t ?_;refine tr_seq ?_)
    have hin':(i:Int) < (es.length:Nat):=by omega
    with_reducible refine tr_drawP 13 11 (by kernel_rfl) (pure_at rfl (by kernel_rfl) (by kernel_rfl)) ?_
    (refine am_val (fun β=>(rk_loadB (.of rfl) (.there (.there (.there (.there (.there (.there (.there .here))))))) norm_ (by rfl))) ind0 rfl ?_;refine am_val (fun β=>(rk_loadB (.of rfl) (.there .here) norm_ (by rfl))) ind0 rfl ?_;refine am_val (fun β=>(rk_fieldAddr (.of rfl) norm0_)) ind0 rfl ?_;refine am_val (fun β=>(rk_load1 (.of rfl) (At.lit (.there (.there (.there (.there (.there (.there .here)))))) rfl))) ind0 rfl ?_;refine am_val (fun β=>(rk_move (.of rfl))) ind0 rfl ?_;refine am_val (fun β=>(rk_indexAddr (.of rfl) (.of rfl) ha' (by omega) hcd norm1_)) ind0 rfl ?_;refine am_val (fun β=>(rk_fieldAddr (.of rfl) norm0_)) ind0 rfl ?_;refine am_val (fun β=>(rk_load1 (.of rfl) (At.base hc4 rfl))) ind0 rfl ?_)
    dsimp only [Nat.zero_add,Nat.reduceAdd]
    with_reducible apply am_callV (B:=[]) (F:=fun _=>.tuple #[.agg #[.int .i64 B.h,.int .i64 B.m,.int .i64 B.s,.int .i64 B.f],.int .i64 0]) (args:=fun _=>[.agg #[.int .i64 r.fr,.bool r.dr],.agg #[.int .i64 A.h,.int .i64 A.m,.int .i64 A.s,.int .i64 A.f],.int .i64 (nth es i).ln])
    case hB=>rfl
    case hr=>exact fun β=>rk_call (.of rfl) (.cons (.of rfl) (.cons (.of rfl) (.cons (.of rfl) .nil))) inferInstance rfl
    case hi=>exact ind0
    case hd=>rfl
    case hc=>exact fun β w' hb=>had w' (hG.keeps hb.mem.keeps)
    dsimp only [Nat.reduceAdd]
    (refine am_val (fun β=>(rk_move (.of rfl))) ind0 rfl ?_;refine am_val (fun β=>(rk_extract (.of rfl) rfl)) ind0 rfl ?_;refine am_val (fun β=>(rk_extract (.of rfl) rfl)) ind0 rfl ?_)
    refine am_new (fun β=>(rk_alloc rfl)) (fun _ _ _=>rfl) rfl ?_
    refine am_end fun β=>?_
    dsimp only [resAll,List.nil_append,List.cons_append,List.append_eq,Nat.reduceAdd]
    generalize gnat (β 12) = b20
    clear β
    refine left_ready (rs:=[13]) (by kernel_rfl) (by simp) (List.forall_mem_cons.2 ⟨?_,fun _ h=>absurd h List.not_mem_nil⟩)
    refine next_step rfl ?_
    (refine tr_store (.of rfl) (.of rfl) .here rfl rfl (okc_cons rfl (okc_cons rfl (okc_cons rfl (okc_cons rfl okc_nil)))) (lenb rfl) norm_ ?_;refine n_t ?_)
    refine left_ready (rs:=[14]) (by kernel_rfl) (by simp) (List.forall_mem_cons.2 ⟨?_,fun _ h=>absurd h List.not_mem_nil⟩)
    refine next_step rfl ?_
    (refine a_s rfl rfl ?_;refine n_t ?_)
    with_reducible refine left_done (by kernel_rfl) ?_
    (refine tr_then ?_;refine s_r ?_;refine tr_val (rk_loadB (.of rfl) (.there (.there (.there (.there (.there (.there (.there (.there .here)))))))) norm_ (by rfl)) rfl ?_;refine tr_val (rk_loadB (.of rfl) (.there (.there .here)) norm_ (by rfl)) rfl ?_;refine m_v rfl rfl ?_;refine tr_val (rk_buildL (.cons (.of rfl) (.cons (.of rfl) (.cons (.of rfl) .nil))) norm_) rfl ?_;refine tr_callV (rk_call (.of rfl) (.cons (.of rfl) .nil) inferInstance normc_) rfl (fun w' hm'=>(hwr w' (GlobR.keeps hG (Mem.keeps hm')))) ?_;refine m_v rfl rfl ?_;refine tr_val (rk_extract (.of rfl) rfl) rfl ?_;refine tr_val (rk_extract (.of rfl) rfl) rfl ?_;refine tr_new (rk_alloc rfl) rfl (fun _ _=>?_);refine tr_store (.of rfl) (.of rfl) .here rfl rfl (okc_cons rfl (okc_cons rfl (okc_cons rfl (okc_cons rfl (okc_cons rfl (okc_cons rfl (okc_cons rfl (okc_cons rfl (okc_cons rfl (okc_cons rfl okc_nil)))))))))) (lenb rfl) norm_ ?_;refine a_s rfl rfl ?_;refine n_t ?_;refine tr_seq ?_;refine s_r ?_;refine m_v rfl rfl ?_;refine tr_val (rk_neq (.of rfl) (.of rfl)) rfl ?_;refine m_v rfl rfl ?_;refine v_g rfl rfl rfl rfl ?_;refine tr_vG1 rfl rfl inferInstance (fun hg hgp=>(rk_neq (.ofg hg rfl) (.of rfl))) rfl ?_;refine tr_val (rk_pick_or (.of rfl) rfl) rfl ?_;refine m_v rfl rfl ?_;refine tr_vG1 rfl rfl inferInstance (fun hg hgp=>(rk_loadB (.of rfl) (.there .here) norm_ (by rfl))) rfl ?_;refine tr_vG1 rfl rfl inferInstance (fun hg hgp=>(rk_loadB (.of rfl) (.there (.there .here)) norm_ (by rfl))) rfl ?_;refine tr_vG1 rfl rfl inferInstance (fun hg hgp=>(rk_neqA (.ofg hg rfl) (.ofg hg rfl) (okL_int (okL_int (okL_int (okL_int okL_nil)))) rfl)) rfl ?_;refine tr_val (rk_pick_or (.of rfl) rfl) rfl ?_;refine n_t ?_;refine c_b rfl (fun hcd=>?_) (fun hcd=>?_);refine s_r ?_;refine a_s rfl rfl ?_;refine n_t ?_;refine r_t ?_;refine tr_blk_ret ?_;refine tr_then_ret ?_;refine tr_then_ret ?_;refine tr_blk_ret ?_;refine tr_then_ret ?_;refine tr_retE rfl (ends1 rfl rfl) ?_;rotate_left;refine s_t ?_;refine tr_region ?_;refine m_v rfl rfl ?_;refine tr_val (rk_sliceA (.of rfl)) rfl ?_;rotate_right)
    · exfalso
      revert hcd
      simp
    refine tr_appendB (.of rfl) (.of rfl) (.there (.there (.there (.there (.there (.there .here)))))) .here norm_ (by rfl) (okc_cons rfl (okc_cons rfl (okc_cons rfl (okc_cons rfl (okc_cons rfl (okc_cons rfl (okc_cons rfl (okc_cons rfl (okc_cons rfl (okc_cons rfl okc_nil)))))))))) (by rfl) (by rfl) (by rfl) lenx_ (by rfl) ?_
    intro v'
    (refine m_v rfl rfl ?_;refine tr_new (rk_sliceLit (.cons (.of rfl) .nil) rfl rfl rfl rfl) rfl (fun _ _=>?_))
    refine tr_appendB (.of rfl) (.of rfl) (.there .here) .here norm_ (by rfl) (okc_cons rfl okc_nil) (by rfl) (by rfl) (by rfl) lenx_ (by rfl) ?_
    intro v2'
    refine tr_rowAs (E:=5) (sz:=1) (v:=v2') (ys:=bytsV (fgnL fb (stL r es fs (i + 1)))) (m:=11 * (i + 1)) (by exact .here) (by rw [hsn,bytsV_wcS,bytsV_wcS,wcells_app,List.append_assoc];rfl) (by exact rfl) ?_
    (refine a_s rfl rfl ?_;refine tr_nil ?_;refine tr_blk_normal ?_;refine tr_then ?_;refine tr_region ?_;refine tr_val (rk_add (.of rfl) (.of rfl) (ini (by omega))) rfl ?_;refine m_v rfl rfl ?_;refine n_t ?_)
    refine tr_rowShut (g:=gt) (E:=23) (sz:=2) (n:=n) (xs:=(spL es n).flatMap duoV) (cur:=curt) (by exact Take.there (.there (.there (.there (.there (.there (.there .here))))))) hct hmt hzt hxt ?_
    apply tr_next (i + 1,v2') (show i + 1 ≤ n from hin) (show n - (i + 1) < n - i by omega)
    case hs1=>exact .cons rfl (.cons rfl (.cons rfl (.cons rfl (.cons rfl (.cons rfl (.cons rfl (.cons rfl (.cons rfl (.cons rfl .nil)))))))))
    case ht=>exact .cons (.there .here) (.cons .here (.cons (.there (.there (.there (.there (.there (.there .here)))))) (.cons (.there (.there (.there (.there (.there (.there .here)))))) (.cons (.there (.there (.there (.there (.there (.there .here)))))) .nil))))
  obtain rfl:i = n:=by omega
  (refine s_r ?_;refine tr_val (rk_lss (.of rfl) (.of rfl)) rfl ?_;refine n_t ?_;refine tr_seq ?_;refine c_d rfl (fun _=>by omega) (fun hcd=>?_);refine x_t ?_;refine tr_then_exit ?_;refine tr_blk_exit ?_;refine tr_then ?_;refine s_r ?_;refine tr_new (rk_sliceLit .nil rfl rfl rfl rfl) rfl (fun _ _=>?_);refine m_v rfl rfl ?_)
  rename_i bz hbz
  have hLok:∀ x ∈ stL r es fs i,StOk x:=fun x hx=>by
    obtain ⟨k,hk,rfl⟩:=List.mem_map.1 hx
    have hk:=List.mem_range.1 hk
    have hfr:=hs.fr_nn (k:=k) (by omega)
    have hte:=hs.enE_ge (k:=k) (by omega)
    exact ⟨(lbl_frm (n:=fs + fr es k) hr ⟨by omega,by omega⟩).1,by show (0:Int) ≤ (k:Nat) ∧ ((k:Nat):Int) ≤ 65535;omega⟩
  have hSl:(stL r es fs i).length = i:=stL_len r es fs i
  have hPl:(fgnL fb (stL r es fs i)).length = 11 * i:=by rw [fgn_len,hSl]
  have hPb:=fgn_bytes hfb0 hLok
  have hfa:=fgn_all (b:=fb) hLok
  have hhz:hrdE (fgnL fb (stL r es fs i)).length = 0:=by rw [hPl];unfold hrdE;rw [if_neg (by omega)]
  refine tr_rowLitE (g:=bz) (E:=5) (ys:=[]) 0 1 (by exact .here) rfl rfl rfl ?_
  with_reducible apply tr_appendR
  case hx=>exact Is.of rfl
  case hy=>exact Is.of rfl
  case ht=>exact .here
  case hsrc=>exact fun w' hm'=>byts_rd (E:=5) (v:=v) hm' (by exact Take.there .here) hPl
  case h1=>exact byts_one _
  case hz=>rfl
  case hsz=>rfl
  case hb0=>rfl
  case hb=>rw [byts_length,hPl];omega
  case hd=>rfl
  intro v3
  refine tr_rowAs (E:=5) (sz:=1) (v:=v3) (ys:=bytsV (fgnL fb (stL r es fs i))) (m:=11 * i) (by exact .here) (by rw [List.nil_append,byts_flat]) (by rw [Nat.zero_add,byts_length,hPl]) ?_
  with_reducible apply tr_call
  case hr=>exact rk_call (.of rfl) (.cons (.of rfl) .nil) inferInstance normc_
  case hd=>rfl
  case ht=>exact Takes.nil
  case hc=>
    intro w1 fp hm1 _ hs1
    obtain rfl:fp = []:=hs1
    exact found_c (byts_rd (E:=5) (v:=v3) hm1 (by exact .here) hPl) hPb (hG.keeps hm1.keeps)
  rintro ⟨vf,va⟩ _
  dsimp only [id_eq,List.cons_append,List.nil_append]
  rw [hhz,show fndL (fgnL fb (stL r es fs i)) = fruL (stL r es fs i) 0 by unfold fndL;rw [if_pos hhz,hfa],fru_len,hSl]
  unfold hsV hnV
  rw [fru_fst]
  refine tr_rowSl (E:=86) (sz:=7) (v:=vf) (by exact .here) fun af cf e=>?_
  subst e
  refine tr_rowSl (E:=3) (sz:=1) (v:=va) (by exact Take.there .here) fun aa ca e=>?_
  subst e
  (refine m_v rfl rfl ?_;refine tr_val (rk_extract (.of rfl) rfl) rfl ?_;refine tr_val (rk_extract (.of rfl) rfl) rfl ?_;refine tr_val (rk_extract (.of rfl) rfl) rfl ?_;refine a_s rfl rfl ?_;refine a_s rfl rfl ?_;refine a_s rfl rfl ?_;refine n_t ?_;refine tr_seq ?_;refine s_r ?_;refine m_v rfl rfl ?_;refine tr_val (rk_neq (.of rfl) (.of rfl)) rfl ?_;refine m_v rfl rfl ?_;refine v_g rfl rfl rfl rfl ?_;refine tr_vG1 rfl rfl inferInstance (fun hg hgp=>(rk_len_slice (.ofg hg rfl))) rfl ?_;refine v_g rfl rfl rfl rfl ?_;refine tr_vG1 rfl rfl inferInstance (fun hg hgp=>(rk_len_slice (.ofg hg rfl))) rfl ?_;refine tr_vG1 rfl rfl inferInstance (fun hg hgp=>(rk_neq (.ofg hg rfl) (.ofg hg rfl))) rfl ?_;refine tr_val (rk_pick_or (.of rfl) rfl) rfl ?_;refine m_v rfl rfl ?_;refine v_g rfl rfl rfl rfl ?_;refine tr_vG1 rfl rfl inferInstance (fun hg hgp=>(rk_len_slice (.ofg hg rfl))) rfl ?_;refine v_g rfl rfl rfl rfl ?_;refine tr_vG1 rfl rfl inferInstance (fun hg hgp=>(rk_len_slice (.ofg hg rfl))) rfl ?_;refine tr_vG1 rfl rfl inferInstance (fun hg hgp=>(rk_neq (.ofg hg rfl) (.ofg hg rfl))) rfl ?_;refine tr_val (rk_pick_or (.of rfl) rfl) rfl ?_;refine n_t ?_;refine c_b rfl (fun _=>by omega) (fun hcd=>?_);refine s_t ?_;refine tr_seq ?_;refine s_r ?_;refine m_v rfl rfl ?_;refine tr_val (rk_len_slice (.of rfl)) rfl ?_;refine m_v rfl rfl ?_;refine n_t ?_;refine tr_block ?_)
  skip
  refine tr_for (ι:=Nat) (fun q=>q ≤ i) (fun q=>[(202,.int .i64 (q:Nat)),(201,.int .i64 (i:Nat)),(200,.slice af i cf),(25,.slice aa i ca),(9,.slice at_ i ct),(11,.slice ag gn cg),(8,.int .i64 fs),(3,.pointer (some ⟨b3,0,none⟩)),(4,.pointer (some ⟨b4,0,none⟩))]) (fun _=>[row 86 7 (.slice af i cf) i (stmsV (stL r es fs i)),row 3 1 (.slice aa i ca) i (natsV ((fruL (stL r es fs i) 0).map (·.2))),row 23 2 (.slice at_ i ct) i ((spL es i).flatMap duoV),row 93 3 (.slice ag gn cg) gn ((gpL es i).flatMap triV),blk b3 (.cells #[.slice a i cap] 57 (0,0)),blk b4 (.cells #[.int .i64 r.fr,.bool r.dr] 59 (0,0))]) (fun q=>i - q) ?_ ?_
  · apply tr_start 0 (show (0:Nat) ≤ i from Nat.zero_le _)
    case hs1=>exact .cons rfl (.cons rfl (.cons rfl (.cons rfl (.cons rfl (.cons rfl (.cons rfl (.cons rfl (.cons rfl .nil))))))))
    case ht=>exact .cons .here (.cons .here (.cons (.there (.there .here)) (.cons (.there (.there .here)) (.cons (.there (.there .here)) (.cons (.there (.there .here)) .nil)))))
  intro q hq
  by_cases hqi:q < i
  · have hfr:=hs.fr_nn (k:=q) (by omega)
    have hte:=hs.enE_ge (k:=q) (by omega)
    have hq1:=fun cur=>spl_at (es:=es) (n:=i) hqi cur
    have hq2:=fun cur=>fru_at (L:=stL r es fs i) (q:=q) (by rw [hSl];exact hqi) cur
    have hq3:=fun cur=>flat_at (f:=Stm.cells) (sz:=7) (fun _=>rfl) (stL r es fs i) q (by rw [hSl];exact hqi) cur
    have hel:(stL r es fs i)[q]'(by rw [hSl];exact hqi) = stA r es fs q:=by simp [stL]
    rw [hel] at hq3
    obtain ⟨hlA,hfA⟩:=lbl_frm (n:=fs + fr es q) hr ⟨by omega,by omega⟩
    have hfx:∀ w',GlobR w' → GivesV Tryd.prog 24 [.agg r.cells.toArray,.agg (lblF r (fs + fr es q)).cells.toArray] w' (.tuple #[.int .i64 (fs + fr es q),.int .i64 0]):=fun w' h=>by
      have h2:=frameX_c r (lblF r (fs + fr es q)) w' h
      rw [lblE_zero.2 hlA,if_pos rfl,hfA] at h2
      exact h2
    rw [show (stA r es fs q).cells = [.int .i64 r.fr,.bool r.dr,.int .i64 (lblF r (fs + fr es q)).h,.int .i64 (lblF r (fs + fr es q)).m,.int .i64 (lblF r (fs + fr es q)).s,.int .i64 (lblF r (fs + fr es q)).f,.int .i64 (q:Nat)] from rfl] at hq3
    generalize lblF r (fs + fr es q) = A at hfx hq3
    rw [hrc,show A.cells = [.int .i64 A.h,.int .i64 A.m,.int .i64 A.s,.int .i64 A.f] from rfl] at hfx
    refine tr_rowOpen (E:=23) (sz:=2) (v:=.slice at_ i ct) (by exact Take.there (.there .here)) (show 0 < i by omega) ?_
    intro gt ct' curt hev hct hmt hzt hxt
    cases hev
    have hq1:=hq1 curt
    have hq1a:=cells_1 hq1
    refine tr_rowOpen (E:=3) (sz:=1) (v:=.slice aa i ca) (by exact Take.there (.there .here)) (show 0 < i by omega) ?_
    intro ga ca' cura hev hca hma hza hxa
    cases hev
    have hq2:=hq2 cura
    refine tr_rowOpen (E:=86) (sz:=7) (v:=.slice af i cf) (by exact Take.there (.there .here)) (show 0 < i by omega) ?_
    intro gf cf' curf hev hcf hmf hzf hxf
    cases hev
    have hq3:=hq3 curf
    have hsl2:((spL es i).flatMap duoV).length = i * 2:=spl_flat
    (refine s_r ?_;refine tr_val (rk_lss (.of rfl) (.of rfl)) rfl ?_;refine n_t ?_;refine tr_seq ?_;refine c_d rfl (fun hcd=>?_) (fun _=>by omega);refine s_t ?_;refine tr_seq ?_;refine tr_block ?_;refine s_r ?_;refine m_v rfl rfl ?_;refine tr_val (rk_indexAddr (.of rfl) (.of rfl) rfl (by omega) hcd norm1_) rfl ?_;refine tr_val (rk_loadB (.of rfl) .here hq3 rfl) rfl ?_;refine tr_new (rk_alloc rfl) rfl (fun _ _=>?_);refine a_s rfl rfl ?_;refine tr_store (.of rfl) (.of rfl) .here rfl rfl (okc_cons rfl (okc_cons rfl (okc_cons rfl (okc_cons rfl (okc_cons rfl (okc_cons rfl (okc_cons rfl okc_nil))))))) (lenb rfl) norm_ ?_;refine n_r ?_;refine f_a rfl rfl norm0_ ?_;refine tr_val (rk_loadB (.of rfl) .here norm_ (by rfl)) rfl ?_;refine f_a rfl rfl norm0_ ?_;refine tr_val (rk_loadB (.of rfl) .here norm_ (by rfl)) rfl ?_;refine tr_callV (rk_call (.of rfl) (.cons (.of rfl) (.cons (.of rfl) .nil)) inferInstance normc_) rfl (fun w' hm'=>(hfx w' (GlobR.keeps hG (Mem.keeps hm')))) ?_;refine m_v rfl rfl ?_;refine tr_val (rk_extract (.of rfl) rfl) rfl ?_;refine tr_val (rk_extract (.of rfl) rfl) rfl ?_;refine a_s rfl rfl ?_;refine a_s rfl rfl ?_;refine n_r ?_;refine m_v rfl rfl ?_;refine tr_val (rk_neq (.of rfl) (.of rfl)) rfl ?_;refine m_v rfl rfl ?_;refine tr_vG1 rfl rfl inferInstance (fun hg hgp=>(rk_fieldAddr (.of rfl) norm0_)) rfl ?_;refine tr_vG1 rfl rfl inferInstance (fun hg hgp=>(rk_load1 (.ofg hg rfl) (At.lit .here rfl))) rfl ?_;refine v_g rfl rfl rfl rfl ?_;refine tr_vG1 rfl rfl inferInstance (fun hg hgp=>(rk_neq (.ofg hg rfl) (.ofg hg rfl))) rfl ?_;refine tr_val (rk_pick_or (.of rfl) rfl) rfl ?_;refine m_v rfl rfl ?_;refine v_g rfl rfl rfl rfl ?_;refine v_g rfl rfl rfl rfl ?_;refine tr_vG1 rfl rfl inferInstance (fun hg hgp=>(rk_indexAddr (.ofg hg rfl) (.ofg hg rfl) rfl (by omega) hcd norm1_)) rfl ?_;refine tr_vG1 rfl rfl inferInstance (fun hg hgp=>(rk_load1 (.ofg hg rfl) (At.blkL (.there (.there .here)) hq2))) rfl ?_;refine v_g rfl rfl rfl rfl ?_;refine tr_vG1 rfl rfl inferInstance (fun hg hgp=>(rk_mul (.of rfl) (.ofg hg rfl) (ini (by omega)))) rfl ?_;refine tr_vG1 rfl rfl inferInstance (fun hg hgp=>(rk_neq (.ofg hg rfl) (.ofg hg rfl))) rfl ?_;refine tr_val (rk_pick_or (.of rfl) rfl) rfl ?_;refine m_v rfl rfl ?_;refine v_g rfl rfl rfl rfl ?_;refine v_g rfl rfl rfl rfl ?_;refine v_g rfl rfl rfl rfl ?_;refine v_g rfl rfl rfl rfl ?_;refine tr_vG1 rfl rfl inferInstance (fun hg hgp=>(rk_indexAddr (.ofg hg rfl) (.ofg hg rfl) rfl (by omega) hcd norm1_)) rfl ?_;refine tr_vG1 rfl rfl inferInstance (fun hg hgp=>(rk_fieldAddr (.ofg hg rfl) norm0_)) rfl ?_;refine tr_vG1 rfl rfl inferInstance (fun hg hgp=>(rk_load1 (.ofg hg rfl) (At.blkL (.there (.there (.there .here))) hq1a))) rfl ?_;refine tr_vG1 rfl rfl inferInstance (fun hg hgp=>(rk_add (.ofg hg rfl) (.ofg hg rfl) (ini (by omega)))) rfl ?_;refine tr_vG1 rfl rfl inferInstance (fun hg hgp=>(rk_neq (.ofg hg rfl) (.ofg hg rfl))) rfl ?_;refine tr_val (rk_pick_or (.of rfl) rfl) rfl ?_;refine n_t ?_;refine c_b rfl (fun _=>by omega) (fun hcd=>?_);refine tr_skip ?_;refine tr_blk_normal ?_;refine tr_then ?_;refine tr_region ?_;refine tr_val (rk_add (.of rfl) (.of rfl) (ini (by omega))) rfl ?_;refine m_v rfl rfl ?_;refine n_t ?_)
    refine tr_rowShut (g:=gt) (E:=23) (sz:=2) (n:=i) (xs:=(spL es i).flatMap duoV) (cur:=curt) (by exact Take.there (.there (.there .here))) hct hmt hzt hxt ?_
    refine tr_rowShut (g:=ga) (E:=3) (sz:=1) (n:=i) (xs:=natsV ((fruL (stL r es fs i) 0).map (·.2))) (cur:=cura) (by exact Take.there (.there (.there .here))) hca hma hza hxa ?_
    refine tr_rowShut (g:=gf) (E:=86) (sz:=7) (n:=i) (xs:=stmsV (stL r es fs i)) (cur:=curf) (by exact Take.there (.there (.there .here))) hcf hmf hzf hxf ?_
    apply tr_next (q + 1) (show q + 1 ≤ i from hqi) (show i - (q + 1) < i - q by omega)
    case hs1=>exact .cons rfl (.cons rfl (.cons rfl (.cons rfl (.cons rfl (.cons rfl (.cons rfl (.cons rfl (.cons rfl .nil))))))))
    case ht=>exact .cons .here (.cons .here (.cons .here (.cons (.there .here) (.cons (.there .here) (.cons (.there .here) .nil)))))
  obtain rfl:q = i:=by omega
  (refine s_r ?_;refine tr_val (rk_lss (.of rfl) (.of rfl)) rfl ?_;refine n_t ?_;refine tr_seq ?_;refine c_d rfl (fun _=>by omega) (fun hcd=>?_);refine x_t ?_;refine tr_then_exit ?_;refine tr_blk_exit ?_;refine tr_then ?_;refine tr_seq ?_;refine s_r ?_;refine m_v rfl rfl ?_;refine tr_val (rk_len_slice (.of rfl)) rfl ?_;refine m_v rfl rfl ?_;refine n_t ?_;refine tr_block ?_)
  refine tr_for (ι:=Nat) (fun g=>g ≤ gn) (fun g=>[(246,.int .i64 (g:Nat)),(245,.int .i64 (gn:Nat)),(244,.slice ag gn cg),(9,.slice at_ q ct),(8,.int .i64 fs),(3,.pointer (some ⟨b3,0,none⟩)),(4,.pointer (some ⟨b4,0,none⟩))]) (fun _=>[row 23 2 (.slice at_ q ct) q ((spL es q).flatMap duoV),row 93 3 (.slice ag gn cg) gn ((gpL es q).flatMap triV),blk b3 (.cells #[.slice a q cap] 57 (0,0)),blk b4 (.cells #[.int .i64 r.fr,.bool r.dr] 59 (0,0))]) (fun g=>gn - g) ?_ ?_
  · apply tr_start 0 (show (0:Nat) ≤ gn from Nat.zero_le _)
    case hs1=>exact .cons rfl (.cons rfl (.cons rfl (.cons rfl (.cons rfl (.cons rfl (.cons rfl .nil))))))
    case ht=>exact .cons (.there (.there .here)) (.cons (.there (.there .here)) (.cons (.there (.there .here)) (.cons (.there (.there .here)) .nil)))
  intro g hg
  by_cases hgn':g < gn
  · have hgL:g < (gpL es q).length:=by rw [← hn,← hgn];exact hgn'
    obtain ⟨k,hk1,hk2,hkx,_⟩:=gpL_at (List.getElem?_eq_getElem hgL)
    have hg3:=fun cur=>flat_at (f:=triV) (sz:=3) (fun _=>rfl) (gpL es q) g hgL cur
    rw [hkx] at hg3
    rw [show triV ((k:Int),to es k,fr es (k + 1)) = [.int .i64 (k:Nat),.int .i64 (to es k),.int .i64 (fr es (k + 1))] from rfl] at hg3
    have hkq:k < q:=by omega
    have hkq1:k + 1 < q:=by omega
    have hfr:=hs.fr_nn (k:=k) (by omega)
    have hte:=hs.enE_ge (k:=k) (by omega)
    have hfr1:=hs.fr_nn (k:=k + 1) (by omega)
    have hte1:=hs.enE_ge (k:=k + 1) (by omega)
    have hq1:=fun cur=>spl_at (es:=es) (n:=q) hkq cur
    have hq4:=fun cur=>spl_at (es:=es) (n:=q) hkq1 cur
    obtain ⟨hA1,hA2⟩:=lab_of (n:=fs + to es k) hr ⟨by omega,by omega⟩
    obtain ⟨hB1,hB2⟩:=lab_of (n:=fs + fr es (k + 1)) hr ⟨by omega,by omega⟩
    obtain ⟨hC1,hC2⟩:=lab_add (a:=fs + to es k) (k:=fr es (k + 1) - to es k) hr (by omega) ⟨by omega,by omega⟩ (by omega)
    have hla:∀ w',GlobR w' → GivesV Tryd.prog 20 [.agg r.cells.toArray,.int .i64 (fs + to es k)] w' (.tuple #[.agg (lblF r (fs + to es k)).cells.toArray,.int .i64 0]):=fun w' h=>by
      have h2:=labelOf_c r (fs + to es k) w' h
      rw [hA1,hA2] at h2
      exact h2
    have hlb:∀ w',GlobR w' → GivesV Tryd.prog 20 [.agg r.cells.toArray,.int .i64 (fs + fr es (k + 1))] w' (.tuple #[.agg (lblF r (fs + fr es (k + 1))).cells.toArray,.int .i64 0]):=fun w' h=>by
      have h2:=labelOf_c r (fs + fr es (k + 1)) w' h
      rw [hB1,hB2] at h2
      exact h2
    have had:∀ w',GlobR w' → GivesV Tryd.prog 21 [.agg r.cells.toArray,.agg (lblF r (fs + to es k)).cells.toArray,.int .i64 (fr es (k + 1) - to es k)] w' (.tuple #[.agg (lblF r (fs + fr es (k + 1))).cells.toArray,.int .i64 0]):=fun w' h=>by
      have h2:=addedX_c r (lblF r (fs + to es k)) (fr es (k + 1) - to es k) w' h
      rw [hC1,hC2,show fs + to es k + (fr es (k + 1) - to es k) = fs + fr es (k + 1) by omega] at h2
      exact h2
    generalize lblF r (fs + to es k) = A at hla had
    generalize lblF r (fs + fr es (k + 1)) = B at hlb had
    rw [hrc] at hla hlb had
    rw [show A.cells = [.int .i64 A.h,.int .i64 A.m,.int .i64 A.s,.int .i64 A.f] from rfl] at hla had
    rw [show B.cells = [.int .i64 B.h,.int .i64 B.m,.int .i64 B.s,.int .i64 B.f] from rfl] at hlb had
    refine tr_rowOpen (E:=23) (sz:=2) (v:=.slice at_ q ct) (by exact .here) (show 0 < q by omega) ?_
    intro gt ct' curt hev hct hmt hzt hxt
    cases hev
    have hq1:=hq1 curt
    have hq1b:=cells_2 hq1
    have hq4:=hq4 curt
    have hq4a:=cells_1 hq4
    have hq4b:((spL es q).flatMap duoV++curt)[((k:Int) + 1).toNat * 2]? = some (.int .i64 (fr es (k + 1))):=by rw [show ((k:Int) + 1).toNat = k + 1 by omega];exact hq4a
    have hsl2:((spL es q).flatMap duoV).length = q * 2:=spl_flat
    refine tr_rowOpen (E:=93) (sz:=3) (v:=.slice ag gn cg) (by exact Take.there .here) (show 0 < gn by omega) ?_
    intro gg cg' curg hev hcg hmg hzg hxg
    cases hev
    have hg3:=hg3 curg
    (refine s_r ?_;refine tr_val (rk_lss (.of rfl) (.of rfl)) rfl ?_;refine n_t ?_;refine tr_seq ?_;refine c_d rfl (fun hcd=>?_) (fun _=>by omega);refine s_t ?_;refine tr_seq ?_;refine tr_block ?_;refine s_r ?_;refine tr_val (rk_indexAddr (.of rfl) (.of rfl) rfl (by omega) hcd norm1_) rfl ?_;refine tr_val (rk_loadB (.of rfl) .here hg3 rfl) rfl ?_;refine tr_new (rk_alloc rfl) rfl (fun _ _=>?_);refine tr_store (.of rfl) (.of rfl) .here rfl rfl (okc_cons rfl (okc_cons rfl (okc_cons rfl okc_nil))) (lenb rfl) norm_ ?_;refine n_t ?_;refine tr_seq ?_;refine s_r ?_;refine f_a rfl rfl norm0_ ?_;refine tr_val (rk_load1 (.of rfl) (At.lit .here rfl)) rfl ?_;refine tr_val (rk_lss (.of rfl) (.of rfl)) rfl ?_;refine m_v rfl rfl ?_;refine tr_vG1 rfl rfl inferInstance (fun hg hgp=>(rk_fieldAddr (.of rfl) norm0_)) rfl ?_;refine tr_vG1 rfl rfl inferInstance (fun hg hgp=>(rk_load1 (.ofg hg rfl) (At.lit .here rfl))) rfl ?_;refine tr_vG1 rfl rfl inferInstance (fun hg hgp=>(rk_add (.ofg hg rfl) (.of rfl) (ini (by omega)))) rfl ?_;refine v_g rfl rfl rfl rfl ?_;refine tr_vG1 rfl rfl inferInstance (fun hg hgp=>(rk_len_slice (.ofg hg rfl))) rfl ?_;refine tr_vG1 rfl rfl inferInstance (fun hg hgp=>(rk_geq (.ofg hg rfl) (.ofg hg rfl))) rfl ?_;refine tr_val (rk_pick_or (.of rfl) rfl) rfl ?_;refine n_t ?_;refine c_d rfl (fun _=>by omega) (fun hcd=>?_);refine s_t ?_;refine tr_seq ?_)
    with_reducible refine tr_drawP 14 12 (by kernel_rfl) (pure_at rfl (by kernel_rfl) (by kernel_rfl)) ?_
    (refine am_val (fun β=>(rk_loadB (.of rfl) (.there (.there (.there (.there .here)))) norm_ (by rfl))) ind0 rfl ?_;refine am_val (fun β=>(rk_move (.of rfl))) ind0 rfl ?_;refine am_val (fun β=>(rk_move (.of rfl))) ind0 rfl ?_;refine am_val (fun β=>(rk_fieldAddr (.of rfl) norm0_)) ind0 rfl ?_;refine am_val (fun β=>(rk_load1 (.of rfl) (At.lit .here rfl))) ind0 rfl ?_;refine am_val (fun β=>(rk_indexAddr (.of rfl) (.of rfl) rfl (by omega) (by omega) norm1_)) ind0 rfl ?_;refine am_val (fun β=>(rk_fieldAddr (.of rfl) norm0_)) ind0 rfl ?_;refine am_val (fun β=>(rk_load1 (.of rfl) (At.blkL (.there (.there .here)) hq1b))) ind0 rfl ?_;refine am_val (fun β=>(rk_add (.of rfl) (.of rfl) (ini (by omega)))) ind0 rfl ?_)
    dsimp only [Nat.zero_add,Nat.reduceAdd]
    with_reducible apply am_callV (B:=[]) (F:=fun _=>.tuple #[.agg #[.int .i64 A.h,.int .i64 A.m,.int .i64 A.s,.int .i64 A.f],.int .i64 0]) (args:=fun _=>[.agg #[.int .i64 r.fr,.bool r.dr],.int .i64 (fs + to es k)])
    case hB=>rfl
    case hr=>exact fun β=>rk_call (.of rfl) (.cons (.of rfl) (.cons (.of rfl) .nil)) inferInstance rfl
    case hi=>exact ind0
    case hd=>rfl
    case hc=>exact fun β w' hb=>hla w' (hG.keeps hb.mem.keeps)
    dsimp only [Nat.reduceAdd]
    (refine am_val (fun β=>(rk_move (.of rfl))) ind0 rfl ?_;refine am_val (fun β=>(rk_extract (.of rfl) rfl)) ind0 rfl ?_;refine am_val (fun β=>(rk_extract (.of rfl) rfl)) ind0 rfl ?_)
    refine am_new (fun β=>(rk_alloc rfl)) (fun _ _ _=>rfl) rfl ?_
    refine am_end fun β=>?_
    dsimp only [resAll,List.nil_append,List.cons_append,List.append_eq,Nat.reduceAdd]
    generalize gnat (β 13) = b33
    clear β
    refine left_ready (rs:=[14]) (by kernel_rfl) (by simp) (List.forall_mem_cons.2 ⟨?_,fun _ h=>absurd h List.not_mem_nil⟩)
    refine next_step rfl ?_
    (refine tr_store (.of rfl) (.of rfl) .here rfl rfl (okc_cons rfl (okc_cons rfl (okc_cons rfl (okc_cons rfl okc_nil)))) (lenb rfl) norm_ ?_;refine n_t ?_)
    refine left_ready (rs:=[15]) (by kernel_rfl) (by simp) (List.forall_mem_cons.2 ⟨?_,fun _ h=>absurd h List.not_mem_nil⟩)
    refine next_step rfl ?_
    (refine a_s rfl rfl ?_;refine n_t ?_)
    with_reducible refine left_done (by kernel_rfl) ?_
    (refine tr_then ?_;refine s_r ?_;refine tr_val (rk_loadB (.of rfl) (.there (.there (.there (.there (.there .here))))) norm_ (by rfl)) rfl ?_;refine tr_val (rk_loadB (.of rfl) .here norm_ (by rfl)) rfl ?_;refine f_a rfl rfl norm0_ ?_;refine f_a rfl rfl norm0_ ?_;refine tr_val (rk_load1 (.of rfl) (At.lit (.there .here) rfl)) rfl ?_;refine f_a rfl rfl norm0_ ?_;refine f_a rfl rfl norm0_ ?_;refine tr_val (rk_load1 (.of rfl) (At.lit (.there .here) rfl)) rfl ?_;refine tr_val (rk_sub (.of rfl) (.of rfl) (ini (by omega))) rfl ?_;refine tr_callV (rk_call (.of rfl) (.cons (.of rfl) (.cons (.of rfl) (.cons (.of rfl) .nil))) inferInstance normc_) rfl (fun w' hm'=>(had w' (GlobR.keeps hG (Mem.keeps hm')))) ?_;refine m_v rfl rfl ?_;refine tr_val (rk_extract (.of rfl) rfl) rfl ?_;refine tr_val (rk_extract (.of rfl) rfl) rfl ?_;refine tr_new (rk_alloc rfl) rfl (fun _ _=>?_);refine tr_store (.of rfl) (.of rfl) .here rfl rfl (okc_cons rfl (okc_cons rfl (okc_cons rfl (okc_cons rfl okc_nil)))) (lenb rfl) norm_ ?_;refine a_s rfl rfl ?_;refine n_t ?_;refine tr_seq ?_)
    with_reducible refine tr_drawP 15 13 (by kernel_rfl) (pure_at rfl (by kernel_rfl) (by kernel_rfl)) ?_
    (refine am_val (fun β=>(rk_loadB (.of rfl) (.there (.there (.there (.there (.there (.there .here)))))) norm_ (by rfl))) ind0 rfl ?_;refine am_val (fun β=>(rk_move (.of rfl))) ind0 rfl ?_;refine am_val (fun β=>(rk_move (.of rfl))) ind0 rfl ?_;refine am_val (fun β=>(rk_fieldAddr (.of rfl) norm0_)) ind0 rfl ?_;refine am_val (fun β=>(rk_load1 (.of rfl) (At.lit (.there (.there .here)) rfl))) ind0 rfl ?_;refine am_val (fun β=>(rk_add (.of rfl) (.of rfl) (ini (by omega)))) ind0 rfl ?_;refine am_val (fun β=>(rk_indexAddr (.of rfl) (.of rfl) rfl (by omega) (by omega) norm1_)) ind0 rfl ?_;refine am_val (fun β=>(rk_fieldAddr (.of rfl) norm0_)) ind0 rfl ?_;refine am_val (fun β=>(rk_load1 (.of rfl) (At.blkL (.there (.there (.there (.there .here)))) hq4b))) ind0 rfl ?_;refine am_val (fun β=>(rk_add (.of rfl) (.of rfl) (ini (by omega)))) ind0 rfl ?_)
    dsimp only [Nat.zero_add,Nat.reduceAdd]
    with_reducible apply am_callV (B:=[]) (F:=fun _=>.tuple #[.agg #[.int .i64 B.h,.int .i64 B.m,.int .i64 B.s,.int .i64 B.f],.int .i64 0]) (args:=fun _=>[.agg #[.int .i64 r.fr,.bool r.dr],.int .i64 (fs + fr es (k + 1))])
    case hB=>rfl
    case hr=>exact fun β=>rk_call (.of rfl) (.cons (.of rfl) (.cons (.of rfl) .nil)) inferInstance rfl
    case hi=>exact ind0
    case hd=>rfl
    case hc=>exact fun β w' hb=>hlb w' (hG.keeps hb.mem.keeps)
    dsimp only [Nat.reduceAdd]
    (refine am_val (fun β=>(rk_move (.of rfl))) ind0 rfl ?_;refine am_val (fun β=>(rk_extract (.of rfl) rfl)) ind0 rfl ?_;refine am_val (fun β=>(rk_extract (.of rfl) rfl)) ind0 rfl ?_)
    refine am_new (fun β=>(rk_alloc rfl)) (fun _ _ _=>rfl) rfl ?_
    refine am_end fun β=>?_
    dsimp only [resAll,List.nil_append,List.cons_append,List.append_eq,Nat.reduceAdd]
    generalize gnat (β 14) = b37
    clear β
    refine left_ready (rs:=[15]) (by kernel_rfl) (by simp) (List.forall_mem_cons.2 ⟨?_,fun _ h=>absurd h List.not_mem_nil⟩)
    refine next_step rfl ?_
    (refine tr_store (.of rfl) (.of rfl) .here rfl rfl (okc_cons rfl (okc_cons rfl (okc_cons rfl (okc_cons rfl okc_nil)))) (lenb rfl) norm_ ?_;refine n_t ?_)
    refine left_ready (rs:=[16]) (by kernel_rfl) (by simp) (List.forall_mem_cons.2 ⟨?_,fun _ h=>absurd h List.not_mem_nil⟩)
    refine next_step rfl ?_
    (refine a_s rfl rfl ?_;refine n_t ?_)
    with_reducible refine left_done (by kernel_rfl) ?_
    (refine tr_then ?_;refine s_r ?_;refine m_v rfl rfl ?_;refine tr_val (rk_neq (.of rfl) (.of rfl)) rfl ?_;refine m_v rfl rfl ?_;refine v_g rfl rfl rfl rfl ?_;refine tr_vG1 rfl rfl inferInstance (fun hg hgp=>(rk_neq (.ofg hg rfl) (.of rfl))) rfl ?_;refine tr_val (rk_pick_or (.of rfl) rfl) rfl ?_;refine m_v rfl rfl ?_;refine v_g rfl rfl rfl rfl ?_;refine tr_vG1 rfl rfl inferInstance (fun hg hgp=>(rk_neq (.ofg hg rfl) (.of rfl))) rfl ?_;refine tr_val (rk_pick_or (.of rfl) rfl) rfl ?_;refine m_v rfl rfl ?_;refine tr_vG1 rfl rfl inferInstance (fun hg hgp=>(rk_loadB (.of rfl) (.there .here) norm_ (by rfl))) rfl ?_;refine tr_vG1 rfl rfl inferInstance (fun hg hgp=>(rk_loadB (.of rfl) .here norm_ (by rfl))) rfl ?_;refine tr_vG1 rfl rfl inferInstance (fun hg hgp=>(rk_neqA (.ofg hg rfl) (.ofg hg rfl) (okL_int (okL_int (okL_int (okL_int okL_nil)))) rfl)) rfl ?_;refine tr_val (rk_pick_or (.of rfl) rfl) rfl ?_;refine n_t ?_;refine c_b rfl (fun hcd=>?_) (fun hcd=>?_);refine s_r ?_;refine a_s rfl rfl ?_;refine n_t ?_;refine tr_ret ?_;refine tr_blk_ret ?_;refine tr_then_ret ?_;refine tr_then_ret ?_;refine tr_blk_ret ?_;refine tr_then_ret ?_;refine tr_retE rfl (ends1 rfl rfl) ?_;rotate_left;refine tr_skip ?_;refine tr_blk_normal ?_;refine tr_then ?_;refine tr_region ?_;refine tr_val (rk_add (.of rfl) (.of rfl) (ini (by omega))) rfl ?_;refine m_v rfl rfl ?_;refine n_t ?_;rotate_right)
    · exfalso
      revert hcd
      simp
    refine tr_rowShut (g:=gt) (E:=23) (sz:=2) (n:=q) (xs:=(spL es q).flatMap duoV) (cur:=curt) (by exact Take.there (.there (.there (.there (.there .here))))) hct hmt hzt hxt ?_
    refine tr_rowShut (g:=gg) (E:=93) (sz:=3) (n:=gn) (xs:=(gpL es q).flatMap triV) (cur:=curg) (by exact Take.there (.there (.there (.there (.there .here))))) hcg hmg hzg hxg ?_
    apply tr_next (g + 1) (show g + 1 ≤ gn from hgn') (show gn - (g + 1) < gn - g by omega)
    case hs1=>exact .cons rfl (.cons rfl (.cons rfl (.cons rfl (.cons rfl (.cons rfl (.cons rfl .nil))))))
    case ht=>exact .cons (.there .here) (.cons .here (.cons (.there (.there (.there (.there .here)))) (.cons (.there (.there (.there (.there .here)))) .nil)))
  obtain rfl:g = gn:=by omega
  (refine s_r ?_;refine tr_val (rk_lss (.of rfl) (.of rfl)) rfl ?_;refine n_t ?_;refine tr_seq ?_;refine c_d rfl (fun _=>by omega) (fun hcd=>?_);refine x_t ?_;refine tr_then_exit ?_;refine tr_blk_exit ?_;refine tr_then ?_;refine s_r ?_;refine a_s rfl rfl ?_;refine n_t ?_;refine tr_ret ?_;refine tr_retE rfl (ends1 rfl rfl) ?_)
  rfl
end Go.Proofs.A1
