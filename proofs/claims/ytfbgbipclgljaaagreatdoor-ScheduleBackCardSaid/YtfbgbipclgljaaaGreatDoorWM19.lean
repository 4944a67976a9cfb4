/- Parts of the proof: S48 S49. -/
import Derived.Test.YtfbgbipclgljaaaGreatDoorWM18
import Derived.Test.YtfbgbipclgljaaaGreatDoorWM06
set_option linter.unusedSectionVars false
set_option linter.unusedVariables false
set_option linter.unusedSimpArgs false
namespace Go.Proofs.A1
open Go Go.SL
theorem mapLn_c {lv:Value} {es:List En} {w:World} (h:Rd w lv 6 (ensL es)) (hi:∀ k,k < es.length → LineOk (nth es k)) (hn:es.length ≤ 1000) (hT:Tab10 w) :
    Gives Tryz.prog 156 [lv,.func (.func 157) #[] #[]] w [] (fun _:Value=>True) id (fun v=>[row 9 1 v es.length ((es.map lineF).map Value.string)]):=by
  obtain ⟨a,cp,b,o,rfl,hcap,hmax,ha,hc⟩:=h
  rw [ensL_length] at *
  unfold maxLen at hmax
  refine gives_of_tr Tryz.func156 rfl rfl ?_
  (refine s_r ?_;refine a_s rfl rfl ?_;refine n_r ?_;refine a_s rfl rfl ?_;refine n_t ?_;refine tr_seq ?_;refine s_r ?_;refine m_v rfl rfl ?_;refine tr_val (rk_len_slice (.of rfl)) rfl ?_;refine m_v rfl rfl ?_;refine n_t ?_;refine tr_block ?_)
  refine tr_rowNil 9 1 ?_
  refine tr_for (ι:=Nat × Value) (fun x=>x.1 ≤ es.length) (fun x=>[(10,.int .i64 x.1),(9,.int .i64 es.length),(8,.slice a es.length cp),(5,x.2),(1,.func (.func 157) #[] #[])]) (fun x=>[row 9 1 x.2 x.1 (((es.take x.1).map lineF).map Value.string)]) (fun x=>es.length - x.1) ?_ ?_
  · apply tr_start (0,.slice none 0 0) (Nat.zero_le _)
    case hs1=>exact .cons rfl (.cons rfl (.cons rfl (.cons rfl (.cons rfl .nil))))
    case ht=>
      show Takes _ [row 9 1 (.slice none 0 0) 0 []] _
      exact .cons .here .nil
  rintro ⟨k,v⟩ hk
  dsimp only at hk ⊢
  by_cases hlt:k < es.length
  · have ha':=ha (ensL_ne hlt)
    have hcell:=(hc k _ (ensL_get hlt)).2
    have hcl:∀ w',Keeps [] w w' → GivesV Tryz.prog 157 [.agg (nth es k).cells.toArray] w' (.string (lineF (nth es k))):=fun w' hk'=>line_c _ (hi k hlt) w' (hT.keeps hk')
    have hs:((es.take (k + 1)).map lineF).map Value.string = ((es.take k).map lineF).map Value.string++[.string (lineF (nth es k))]:=by
      rw [List.take_add_one,List.getElem?_eq_getElem hlt,List.map_append,List.map_append,nth_eq hlt];rfl
    unfold En.cells at hcell hcl
    (refine s_r ?_;refine tr_val (rk_lss (.of rfl) (.of rfl)) rfl ?_;refine n_t ?_;refine tr_seq ?_;refine c_d rfl (fun hcd=>?_) (fun _=>by omega);refine s_t ?_;refine tr_seq ?_;refine tr_block ?_;refine s_r ?_;refine tr_val (rk_indexAddr (.of rfl) (.of rfl) ha' (by omega) hcd norm1_) rfl ?_;refine tr_val (rk_loadN (.of rfl) (Ats.base hcell rfl) rfl) rfl ?_;refine tr_new (rk_alloc rfl) rfl (fun _ _=>?_);refine tr_store (.of rfl) (.of rfl) .here rfl rfl (okc_cons rfl (okc_cons rfl (okc_cons rfl (okc_cons rfl (okc_cons rfl (okc_cons rfl okc_nil)))))) (lenb rfl) norm_ ?_;refine n_t ?_;refine tr_region ?_;refine m_v rfl rfl ?_;refine m_v rfl rfl ?_;refine tr_val (rk_loadB (.of rfl) .here norm_ (by rfl)) rfl ?_;refine tr_callV (rk_call (.of rfl) (.cons (.of rfl) .nil) inferInstance normc_) rfl (fun w' hm'=>(hcl w' (Mem.keeps hm'))) ?_;refine tr_new (rk_sliceLit (.cons (.of rfl) .nil) rfl rfl rfl rfl) rfl (fun _ _=>?_))
    refine tr_appendB (.of rfl) (.of rfl) (.there (.there .here)) .here norm_ (by rfl) (okc_cons rfl okc_nil) (by rfl) (by rfl) (by rfl) lenx_ (by rfl) ?_
    intro v'
    (refine a_s rfl rfl ?_;refine tr_nil ?_;refine tr_blk_normal ?_;refine tr_then ?_;refine tr_region ?_;refine tr_val (rk_add (.of rfl) (.of rfl) (ini (by omega))) rfl ?_;refine m_v rfl rfl ?_;refine n_t ?_)
    apply tr_next (k + 1,v') (show k + 1 ≤ es.length by omega) (show es.length - (k + 1) < es.length - k by omega)
    case hs1=>exact .cons rfl (.cons rfl (.cons rfl (.cons rfl (.cons rfl .nil))))
    case ht=>
      show Takes _ [row 9 1 v' (k + 1) (((es.take (k + 1)).map lineF).map Value.string)] _
      rw [hs]
      exact .cons .here .nil
  · obtain rfl:k = es.length:=by omega
    rw [List.take_length]
    (refine s_r ?_;refine tr_val (rk_lss (.of rfl) (.of rfl)) rfl ?_;refine n_t ?_;refine tr_seq ?_;refine c_d rfl (fun _=>by omega) (fun hcd=>?_);refine x_t ?_;refine tr_then_exit ?_;refine tr_blk_exit ?_;refine tr_then ?_;refine s_r ?_;refine m_v rfl rfl ?_;refine a_s rfl rfl ?_;refine n_t ?_;refine tr_ret ?_)
    first | with_reducible apply tr_retM | with_reducible apply tr_endM
    case he=>exact ends1 rfl rfl
    case hR=>
      intro w' hm'
      exact gives_end v trivial (by exact .cons .here .nil) hm' rfl
def prF (es:List En):ByteArray:=if chkF es = 0 then joinB (es.map lineF) ⟨#[]⟩ else ⟨#[]⟩
theorem lineF_len {e:En} (h:LineOk e):(lineF e).data.toList.length ≤ 7008:=by
  have:=lineW_len h
  unfold lineF joinB
  show (Array.toList _).length ≤ 7008
  simp only [ByteArray.data_append,Array.toList_append,List.length_append]
  have e2:([10]:List UInt8).length = 1:=rfl
  show (Lib.join ((lineW e).map (·.data.toList)) [32]).length + ([10]:List UInt8).length ≤ 7008
  omega
theorem print_c {sv:Value} {es:List En} {w:World} (h1:Rd w sv 6 (ensL es)) (hG:Glob w) (hT:Tab10 w) :
    GivesV Tryz.prog 81 [.agg #[sv]] w (.tuple #[.string (prF es),.int .i64 (chkF es)]):=by
  have h1':=h1
  obtain ⟨a,cap,b,o,rfl,hcap,hmax,ha,hc⟩:=h1'
  rw [ensL_length] at *
  unfold maxLen at hmax
  refine givesV_of_tr Tryz.func81 rfl rfl ?_
  (refine s_r ?_;refine tr_new (rk_box (.of rfl) rfl) rfl (fun _ _=>?_);refine a_s rfl rfl ?_;refine a_s rfl rfl ?_;refine n_t ?_;refine tr_seq ?_;refine s_r ?_;refine tr_val (rk_loadB (.of rfl) .here norm_ (by rfl)) rfl ?_;refine tr_callV (rk_call (.of rfl) (.cons (.of rfl) .nil) inferInstance normc_) rfl (fun w' hm'=>(chk_c (Rd.keeps h1 (Mem.keeps hm')) (Glob.keeps hG (Mem.keeps hm')))) ?_;refine a_s rfl rfl ?_;refine n_r ?_;refine m_v rfl rfl ?_;refine tr_val (rk_neq (.of rfl) (.of rfl)) rfl ?_;refine n_t ?_;refine c_d rfl (fun hcd=>?_) (fun hcd=>?_);refine s_r ?_;refine m_v rfl rfl ?_;refine a_s rfl rfl ?_;refine a_s rfl rfl ?_;refine n_t ?_;refine r_t ?_;refine tr_retE rfl (ends2 rfl rfl rfl) ?_;rotate_left;refine s_t ?_;refine s_r ?_;refine f_a rfl rfl norm0_ ?_;refine tr_val (rk_load1 (.of rfl) (At.lit .here rfl)) rfl ?_;rotate_right)
  · rw [prF,if_neg hcd]
  have hz:chkF es = 0:=Decidable.not_not.1 hcd
  have hs:=Sound.of hz
  have hfew:=hs.all.few
  have hlo:∀ k,k < es.length → LineOk (nth es k):=fun k hk=>LineOk.of (hs.all.ok k hk)
  with_reducible apply tr_call
  case hr=>exact rk_call (.of rfl) (.cons (.of rfl) (.cons (.of rfl) .nil)) inferInstance normc_
  case hd=>rfl
  case ht=>exact Takes.nil
  case hc=>
    intro w1 fp hm1 _ hs1
    obtain rfl:fp = []:=hs1
    exact mapLn_c (h1.keeps hm1.keeps) hlo (by omega) (hT.keeps hm1.keeps)
  intro v _
  dsimp only [id_eq,List.cons_append,List.nil_append]
  with_reducible apply tr_callV
  case hr=>exact rk_call (.of rfl) (.cons (.of rfl) (.cons (.of rfl) .nil)) inferInstance normc_
  case hd=>rfl
  case hc=>
    intro w' hm'
    refine join_c (l:=es.map lineF) ⟨#[]⟩ (rdStrR (n:=es.length) hm' (by exact .here) (by exact rfl) (by simp)) (by simp;omega) ?_
    have:=join_len ((es.map lineF).map (·.data.toList)) [] 7008 (by
      intro x hx
      rw [List.map_map,List.mem_map] at hx
      obtain ⟨e,he,rfl⟩:=hx
      obtain ⟨k,hk,rfl⟩:=List.getElem_of_mem he
      rw [← nth_eq hk]
      exact lineF_len (hlo k hk))
    simp only [List.length_map,List.length_nil,Nat.add_zero] at this
    have h2:es.length * 7008 ≤ 24 * 7008:=Nat.mul_le_mul_right _ hfew
    exact Nat.le_trans this (Nat.le_trans h2 (by decide))
  rw [prF,if_pos hz,hz]
  (refine a_s rfl rfl ?_;refine a_s rfl rfl ?_;refine n_t ?_;refine tr_ret ?_;refine tr_retE rfl (ends2 rfl rfl rfl) ?_)
  rfl
theorem it100:Lib.itoa 100 = [49,48,48]:=by simp [Lib.itoa,Lib.decDigits]
theorem it50:Lib.itoa 50 = [53,48]:=by simp [Lib.itoa,Lib.decDigits]
theorem it5:Lib.itoa 5 = [53]:=by simp [Lib.itoa,Lib.decDigits]
def awZ:ByteArray:=⟨#[101,110,116,114,121,32,110,101,119,115,32,110,49,32,102,105,120,101,100,32,49,48,48,32,53,48,32,53,10]⟩
theorem ev_z:prF [sh0] = awZ:=by
  rw [prF,if_pos ev_one]
  have h1:itoaB sh0.tm = ⟨#[49,48,48]⟩:=by unfold itoaB;rw [show sh0.tm = 100 from rfl,it100]
  have h2:itoaB sh0.ln = ⟨#[53,48]⟩:=by unfold itoaB;rw [show sh0.ln = 50 from rfl,it50]
  have h3:itoaB sh0.ov = ⟨#[53]⟩:=by unfold itoaB;rw [show sh0.ov = 5 from rfl,it5]
  have h4:lineF sh0 = awZ:=by
    unfold lineF lineW
    rw [h1,h2,h3]
    rfl
  rw [List.map_cons,List.map_nil,h4]
  rfl
end Go.Proofs.A1
namespace Go.Proofs.A1
open Go Go.SL
theorem tr_cut {c:Cx} {D:List Nat} {sl:Slots} {hs rest:List Asn} {X:Act → World → Prop} (sl2:Slots) (hs2:List Asn) (h1:Subs sl sl2) (ht:Takes hs hs2 rest) (k:Tr c D sl2 hs2 X):Tr c D sl hs X:=fun a w hst=>k a w (hst.weaken h1 ht)
theorem rk_pickB {P:Program} {c:Cx} {sl:Slots} {hs:List Asn} {dst:Option Tmp} {ty:TypeId} {pos:String} {af:Array Edge} {g:Option (Nat × Bool)} {x y z:Operand} {q:Bool} {v u V:Value} (hx:Is sl x (.bool q)) (hy:Is sl y v) (hz:Is sl z u) (e:(bif q then v else u) = V):RunV P c sl hs ⟨dst,.pick x y z,ty,pos,af,g⟩ V:=e ▸ rk_pick hx hy hz
theorem rdTriN {c:Cx} {hs hs':List Asn} {w:World} {E:TypeId} {l:List (Int × Int × Int)} {n:Nat} {v:Value} (hm:Mem c hs w) (ht:Take hs (row E 3 v n (l.flatMap triV)) hs') (hn:l.length = n):Rd w v 3 (l.map triV):=by
  subst hn;exact rdTri hm ht
theorem rdDuoN {c:Cx} {hs hs':List Asn} {w:World} {E:TypeId} {l:List (Int × Int)} {n:Nat} {v:Value} (hm:Mem c hs w) (ht:Take hs (row E 2 v n (l.flatMap duoV)) hs') (hn:l.length = n):Rd w v 2 (l.map duoV):=by
  subst hn;exact rdDuo hm ht
theorem rdNatN {c:Cx} {hs hs':List Asn} {w:World} {E:TypeId} {l:List Nat} {n:Nat} {v:Value} (hm:Mem c hs w) (ht:Take hs (row E 1 v n (natsV l)) hs') (hn:l.length = n):Rd w v 1 ((l.map fun (i:Nat)=>(i:Int)).map oneV):=by
  subst hn
  have:=rdRowN hm ht
  rw [natsL_ints] at this
  exact this
theorem sameSpans_t {v1 v2:Value} {l:List (Int × Int)} {w:World} (h1:Rd w v1 2 (l.map duoV)) (h2:Rd w v2 2 (l.map duoV)):GivesV Tryz.prog 96 [v1,v2] w (.bool true):=by
  have:=sameSpans_c h1 h2
  rwa [decide_eq_true rfl] at this
theorem sameGaps_t {v1 v2:Value} {l:List (Int × Int × Int)} {w:World} (h1:Rd w v1 3 (l.map triV)) (h2:Rd w v2 3 (l.map triV)):GivesV Tryz.prog 31 [v1,v2] w (.bool true):=by
  have:=sameGaps_c h1 h2
  rwa [decide_eq_true rfl] at this
theorem sameShares_t {v1 v2:Value} {l:List (Int × Int × Int)} {w:World} (h1:Rd w v1 3 (l.map triV)) (h2:Rd w v2 3 (l.map triV)):GivesV Tryz.prog 33 [v1,v2] w (.bool true):=by
  have:=sameShares_c h1 h2
  rwa [decide_eq_true rfl] at this
theorem sameInts_t {v1 v2:Value} {l:List Int} {w:World} (h1:Rd w v1 1 (l.map oneV)) (h2:Rd w v2 1 (l.map oneV)):GivesV Tryz.prog 97 [v1,v2] w (.bool true):=by
  have:=sameInts_c h1 h2
  rwa [decide_eq_true rfl] at this
def awT:List (Int × Int):=[(100,150),(145,345),(400,420),(420,450)]
def awT2:List (Int × Int):=[(100,150),(145,345),(410,440)]
def awG:List (Int × Int × Int):=[(1,345,400)]
def awA:List (Int × Int × Int):=[(0,5,6),(1,1,6)]
def awB:List (Int × Int × Int):=[(1,1,1)]
def awX:List (Int × Int):=[(155,175),(315,335)]
def awV:List Nat:=[1,3]
def awF:List Nat:=[1,2]
def awR:List En:=[sh0,sh1,sh3]
theorem aw_times {v:Value} {w:World} (h:Rd w v 6 (ensL shL)) (hG:Glob w):Gives Tryz.prog 19 [.agg #[v]] w [] (fun _:Value=>True) (fun v=>.tuple #[v,.int .i64 0]) (fun v=>[row 66 2 v awT.length (awT.flatMap duoV)]):=by
  have:=times_c h hG
  rwa [ev_chk,ev_tm] at this
theorem aw_gaps {v:Value} {w:World} (h:Rd w v 6 (ensL shL)) (hG:Glob w):Gives Tryz.prog 21 [.agg #[v]] w [] (fun _:Value=>True) (fun v=>.tuple #[v,.int .i64 0]) (fun v=>[row 120 3 v awG.length (awG.flatMap triV)]):=by
  have:=gapsX_c h hG
  rwa [ev_chk,ev_gps] at this
theorem aw_air1 {v:Value} {w:World} (h:Rd w v 6 (ensL shL)) (hG:Glob w):Gives Tryz.prog 22 [.agg #[v],.int .i64 145] w [] (fun _:Value=>True) (fun v=>.tuple #[v,.int .i64 0]) (fun v=>[row 117 3 v awA.length (awA.flatMap triV)]):=by
  have:=onAir_c (f:=145) h hG
  rwa [ev_air1.1,ev_air1.2] at this
theorem aw_air2 {v:Value} {w:World} (h:Rd w v 6 (ensL shL)) (hG:Glob w):Gives Tryz.prog 22 [.agg #[v],.int .i64 150] w [] (fun _:Value=>True) (fun v=>.tuple #[v,.int .i64 0]) (fun v=>[row 117 3 v awB.length (awB.flatMap triV)]):=by
  have:=onAir_c (f:=150) h hG
  rwa [ev_air2.1,ev_air2.2] at this
theorem aw_air3 {v:Value} {w:World} (h:Rd w v 6 (ensL shL)) (hG:Glob w):Gives Tryz.prog 22 [.agg #[v],.int .i64 360] w [] (fun _:Value=>True) (fun v=>.tuple #[v,.int .i64 0]) (fun v=>[row 117 3 v ([]:List (Int × Int × Int)).length (([]:List (Int × Int × Int)).flatMap triV)]):=by
  have:=onAir_c (f:=360) h hG
  rwa [ev_air3.1,ev_air3.2] at this
theorem aw_ex {v lv:Value} {w:World} (h:Rd w v 6 (ensL shL)) (h2:Rd w lv 4 (seL aw6)) (hG:Glob w):Gives Tryz.prog 36 [.agg #[v],lv] w [] (fun _:Value=>True) (fun v=>.tuple #[v,.int .i64 0]) (fun v=>[row 66 2 v awX.length (awX.flatMap duoV)]):=by
  have:=expanded_c h h2 hG
  rwa [ev_ex.1,ev_ex.2] at this
theorem aw_vi {v lv:Value} {w:World} (h:Rd w v 6 (ensL shL)) (h2:Rd w lv 3 (riL aw7)) (hG:Glob w):Gives Tryz.prog 37 [.agg #[v],lv] w [] (fun _:Value=>True) (fun v=>.tuple #[v,.int .i64 0]) (fun v=>[row 3 1 v awV.length (natsV awV)]):=by
  have:=violations_c h h2 hG
  rwa [ev_vi.1,ev_vi.2] at this
theorem aw_rm1 {v:Value} {w:World} (h:Rd w v 6 (ensL shL)) (hG:Glob w):Gives Tryz.prog 71 [.agg #[v],.int .i64 380,.int .i64 1] w [] (fun _:Value=>True) (fun v=>.tuple #[.agg #[v],.int .i64 23]) (fun v=>[row 138 6 v ([]:List En).length (ensL []).flatten]):=by
  have:=removed_c (now:=380) (at':=1) h hG
  rwa [ev_rm1.1,ev_rm1.2] at this
theorem aw_rm2 {v:Value} {w:World} (h:Rd w v 6 (ensL shL)) (hG:Glob w):Gives Tryz.prog 71 [.agg #[v],.int .i64 380,.int .i64 2] w [] (fun _:Value=>True) (fun v=>.tuple #[.agg #[v],.int .i64 0]) (fun v=>[row 138 6 v awR.length (ensL awR).flatten]):=by
  have:=removed_c (now:=380) (at':=2) h hG
  rwa [ev_rm2.1,ev_rm2.2] at this
theorem aw_tm2 {v:Value} {w:World} (h:Rd w v 6 (ensL awR)) (hG:Glob w):Gives Tryz.prog 19 [.agg #[v]] w [] (fun _:Value=>True) (fun v=>.tuple #[v,.int .i64 0]) (fun v=>[row 66 2 v awT2.length (awT2.flatMap duoV)]):=by
  have:=times_c h hG
  rwa [show chkF awR = 0 from ev_tm2.1,show tmL awR = awT2 from ev_tm2.2] at this
theorem aw_in1 {v:Value} {w:World} (h:Rd w v 6 (ensL shL)) (hG:Glob w):Gives Tryz.prog 69 [.agg #[v],.int .i64 300,.int .i64 2,.agg (ad 60).cells.toArray] w [] (fun _:Value=>True) (fun v=>.tuple #[.agg #[v],.int .i64 15]) (fun v=>[row 138 6 v ([]:List En).length (ensL ([]:List En)).flatten]):=by
  have:=inserted_c (now:=300) (at':=2) (ad 60) h (by decide) hG
  rwa [ev_in1.1,ev_in1.2] at this
theorem aw_in2 {v:Value} {w:World} (h:Rd w v 6 (ensL shL)) (hG:Glob w):Gives Tryz.prog 69 [.agg #[v],.int .i64 300,.int .i64 2,.agg (ad 55).cells.toArray] w [] (fun _:Value=>True) (fun v=>.tuple #[.agg #[v],.int .i64 0]) (fun v=>[row 138 6 v (inL shL 300 2 (ad 55)).length (ensL (inL shL 300 2 (ad 55))).flatten]):=by
  have:=inserted_c (now:=300) (at':=2) (ad 55) h (by decide) hG
  rwa [ev_in2] at this
theorem aw_in3 {v:Value} {w:World} (h:Rd w v 6 (ensL shL)) (hG:Glob w):Gives Tryz.prog 69 [.agg #[v],.int .i64 346,.int .i64 2,.agg (ad 55).cells.toArray] w [] (fun _:Value=>True) (fun v=>.tuple #[.agg #[v],.int .i64 23]) (fun v=>[row 138 6 v ([]:List En).length (ensL ([]:List En)).flatten]):=by
  have:=inserted_c (now:=346) (at':=2) (ad 55) h (by decide) hG
  rwa [ev_in3.1,ev_in3.2] at this
theorem aw_fi {pv cv:Value} {w:World} (h2:Rd w pv 4 (spsL ofL)) (h3:Rd w cv 1 (ints [2,2])):Gives Tryz.prog 62 [.agg #[.int .i64 55,pv,cv,.slice none 0 0]] w [] (fun _:Value=>True) (fun v=>.tuple #[v,.agg #[.int .i64 76,.int .i64 55],.int .i64 0]) (fun v=>[row 3 1 v awF.length (natsV awF)]):=by
  have:=fill_c (b:=ofB) h2 h3 (Rd.nil _ _)
  rwa [ev_br,ev_fi.1,ev_fi.2] at this
theorem aw_cf1 {pv cv ov:Value} {w:World} (h2:Rd w pv 4 (spsL ofL)) (h3:Rd w cv 1 (ints [2,2])) (h4:Rd w ov 1 (ints [0,3,1])):GivesV Tryz.prog 61 [.agg #[.int .i64 55,pv,cv,.slice none 0 0],ov] w (.tuple #[.agg #[.int .i64 75,.int .i64 55],.int .i64 0]):=by
  have:=checkFill_c (b:=ofB) h2 h3 (Rd.nil _ _) h4
  rwa [ev_cf1.1,ev_cf1.2] at this
theorem aw_cf2 {pv cv ov:Value} {w:World} (h2:Rd w pv 4 (spsL ofL)) (h3:Rd w cv 1 (ints [2,2])) (h4:Rd w ov 1 (ints [0,1])):GivesV Tryz.prog 61 [.agg #[.int .i64 55,pv,cv,.slice none 0 0],ov] w (.tuple #[.agg #[.int .i64 0,.int .i64 0],.int .i64 21]):=by
  have:=checkFill_c (b:=ofB) h2 h3 (Rd.nil _ _) h4
  rwa [ev_cf2.1,ev_cf2.2] at this
theorem aw_bd1 {pv cv:Value} {w:World} (h2:Rd w pv 4 (spsL ofL)) (h3:Rd w cv 1 (ints [2,2])):GivesV Tryz.prog 46 [.agg #[.int .i64 55,pv,cv,.slice none 0 0],.agg #[.int .i64 6,.int .i64 5]] w (.tuple #[.int .i64 82,.int .i64 0]):=by
  have:=boundX_c (p:=(6,5)) (b:=ofB) h2 h3 (Rd.nil _ _)
  rwa [ev_bd1.1,ev_bd1.2,if_pos rfl] at this
theorem aw_bd2 {pv cv:Value} {w:World} (h2:Rd w pv 4 (spsL ofL)) (h3:Rd w cv 1 (ints [2,2])):GivesV Tryz.prog 46 [.agg #[.int .i64 55,pv,cv,.slice none 0 0],.agg #[.int .i64 3,.int .i64 2]] w (.tuple #[.int .i64 85,.int .i64 0]):=by
  have:=boundX_c (p:=(3,2)) (b:=ofB) h2 h3 (Rd.nil _ _)
  rwa [ev_bd2.1,ev_bd2.2,if_pos rfl] at this
theorem aw_pr {pv cv:Value} {w:World} (h2:Rd w pv 4 (spsL ofL)) (h3:Rd w cv 1 (ints [2,2])):GivesV Tryz.prog 44 [.agg #[.int .i64 55,pv,cv,.slice none 0 0]] w (.tuple #[.agg #[.int .i64 6,.int .i64 5],.int .i64 0]):=by
  have:=priceX_c (b:=ofB) h2 h3 (Rd.nil _ _)
  rwa [ev_br,if_pos rfl,ev_pr] at this
theorem aw_pl {v pv cv ov:Value} {w:World} (h:Rd w v 6 (ensL shL)) (h2:Rd w pv 4 (spsL ofL)) (h3:Rd w cv 1 (ints [2,2])) (h5:Rd w ov 1 (ints [1,2])) (hG:Glob w):Gives Tryz.prog 52 [.agg #[v],.int .i64 0,.agg #[.int .i64 55,pv,cv,.slice none 0 0],ov] w [] (fun _:Value=>True) (fun v=>.tuple #[.agg #[v],.int .i64 0]) (fun v=>[row 138 6 v awP.length (ensL awP).flatten]):=by
  have:=placed_c (b:=ofB) (gap:=0) h h2 h3 (Rd.nil _ _) h5 hG
  rwa [ev_pl.1,ev_pl.2] at this
theorem aw_z {v:Value} {w:World} (h:Rd w v 6 (ensL [sh0])) (hG:Glob w) (hT:Tab10 w):GivesV Tryz.prog 81 [.agg #[v]] w (.tuple #[.string awZ,.int .i64 0]):=by
  have:=print_c h hG hT
  rwa [ev_z,ev_one] at this
end Go.Proofs.A1
