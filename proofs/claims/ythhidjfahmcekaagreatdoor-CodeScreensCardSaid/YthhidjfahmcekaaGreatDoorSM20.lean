/- Parts of the proof: U5C. -/
import Derived.Test.YthhidjfahmcekaaGreatDoorSM19
import Derived.Test.YthhidjfahmcekaaGreatDoorSM08
import Derived.Test.YthhidjfahmcekaaGreatDoorSM06
set_option linter.unusedSectionVars false
set_option linter.unusedVariables false
set_option linter.unusedSimpArgs false
namespace Go.Proofs.A1
open Go Go.SL
theorem cut_kS {A B:Prop} (h:A → B) (k:A):B:=h k
theorem rk_neqiS {P:Program} {c:Cx} {sl:Slots} {hs:List Asn} {dst:Option Tmp} {ty:TypeId} {pos:String} {af:Array Edge} {g:Option (Nat × Bool)} {k:IntKind} {t u:TypeId} {x y:Operand} {a b:Int} (hx:Is sl x (.int k a)) (hy:Is sl y (.int k b)) (e:a = b) :
    RunV P c sl hs ⟨dst,.binOp .neq t x y u,ty,pos,af,g⟩ (.bool false):=by
  have:=rk_neq (P:=P) (c:=c) (hs:=hs) (dst:=dst) (ty:=ty) (pos:=pos) (af:=af) (g:=g) (t:=t) (u:=u) hx hy
  rwa [decide_eq_false (fun h=>h e)] at this
theorem rk_neqsS {P:Program} {c:Cx} {sl:Slots} {hs:List Asn} {dst:Option Tmp} {ty:TypeId} {pos:String} {af:Array Edge} {g:Option (Nat × Bool)} {t u:TypeId} {x y:Operand} {a b:ByteArray} (hx:Is sl x (.string a)) (hy:Is sl y (.string b)) (e:a = b) :
    RunV P c sl hs ⟨dst,.binOp .neq t x y u,ty,pos,af,g⟩ (.bool false):=by
  have:=rk_neqs (P:=P) (c:=c) (hs:=hs) (dst:=dst) (ty:=ty) (pos:=pos) (af:=af) (g:=g) (t:=t) (u:=u) hx hy
  rwa [decide_eq_false (fun h=>h e)] at this
theorem rk_rem16 {P:Program} {c:Cx} {sl:Slots} {hs:List Asn} {dst:Option Tmp} {ty:TypeId} {pos:String} {af:Array Edge} {g:Option (Nat × Bool)} {t u:TypeId} {x y:Operand} {a b:Int} (hx:Is sl x (.int .u16 a)) (hy:Is sl y (.int .u16 b)) (h0:0 ≤ a) (hb:b ≠ 0) :
    RunV P c sl hs ⟨dst,.binOp .rem t x y u,ty,pos,af,g⟩ (.int .u16 (a % b)):=
  rk_bin hx hy fun w=>by
    simp [eqGuard_int,binOp,Op.intDiv,hb,Int.tmod_eq_emod_of_nonneg h0]
theorem rk_shlS {P:Program} {c:Cx} {sl:Slots} {hs:List Asn} {dst:Option Tmp} {ty:TypeId} {pos:String} {af:Array Edge} {g:Option (Nat × Bool)} {t u:TypeId} {x y:Operand} {k yk:IntKind} {a n:Int} (q:Int) (hx:Is sl x (.int k a)) (hy:Is sl y (.int yk n)) (h0:0 ≤ n) (h1:n ≤ k.bits) (e:k.wrap (a * 2 ^ n.toNat) = q):RunV P c sl hs ⟨dst,.binOp .shl t x y u,ty,pos,af,g⟩ (.int k q):=e ▸ rk_shl hx hy h0 h1
theorem shl_bitS:∀ b:Nat,b < 8 → IntKind.u8.wrap (1 * 2 ^ b) = ((2 ^ b:Nat):Int):=by decide
theorem bytsV_wcS:∀ l:List Int,bytsV l = wcells l
  | []=>rfl
  | x :: l => by
    show [Value.int .u8 x]++bytsV l = _
    rw [bytsV_wcS l];rfl
theorem rk_neqBo {P:Program} {c:Cx} {sl:Slots} {hs:List Asn} {dst:Option Tmp} {ty:TypeId} {pos:String} {af:Array Edge} {g:Option (Nat × Bool)} {t u:TypeId} {x y:Operand} {a b:Bool} [hu:Und P t .bool] (hx:Is sl x (.bool a)) (hy:Is sl y (.bool b)) :
    RunV P c sl hs ⟨dst,.binOp .neq t x y u,ty,pos,af,g⟩ (.bool (!(a == b))):=
  rk_bin hx hy fun w=>by
    have:(Op.equal t (.bool a) (.bool b)).run P w = .ok (a == b) w:=by
      exact leq_run (d:=9999) (by rw [hu.eq];rfl) (fun k h=>by rw [hu.eq] at h;cases h) (fun h=>by rw [hu.eq] at h;cases h) (fun _=>⟨a,rfl⟩) rfl
    simp [eqGuard_bool,binOp,this]
def frL (n:Int) (l:List Cp):List Int:=n :: l.flatMap fun x=>[x.fr,x.to,x.to - 1]
theorem frL_take (n:Int) {l:List Cp} {k:Nat} (h:k < l.length):intgV (frL n (l.take (k + 1))) = intgV (frL n (l.take k))++[.int .i64 (l[k]).fr,.int .i64 (l[k]).to,.int .i64 ((l[k]).to - 1)]:=by
  unfold intgV frL
  rw [List.take_succ_eq_append_getElem h,List.flatMap_append,List.flatMap_cons,List.flatMap_append,List.flatMap_cons,List.flatMap_cons,List.append_assoc]
  rfl
theorem frL_len (n:Int):∀ l:List Cp,(frL n l).length = 3 * l.length + 1
  | []=>rfl
  | x :: l => by
    have:=frL_len n l
    unfold frL at this ⊢
    rw [List.length_cons] at this
    rw [List.flatMap_cons,List.length_cons,List.length_append,show (x :: l).length = l.length + 1 from rfl]
    show 3 + _ + 1 = _
    omega
theorem sumN_le {f:Nat → Nat} {M:Nat} (h:∀ k,f k ≤ M):∀ n,sumN f n ≤ n * M
  | 0=>by rw [Nat.zero_mul];exact Nat.le_refl _
  | n + 1=>by rw [sumN,Nat.succ_mul];have:=sumN_le h n;have:=h n;omega
def nz (l:List Cp) (f:Int) (r k:Nat):Nat:=if shB l f (r:Int) k ≠ 32 then 1 else 0
def nzR (l:List Cp) (f:Int) (r:Nat):Nat:=sumN (nz l f r) 32
theorem nz_le (l:List Cp) (f:Int) (r k:Nat):nz l f r k ≤ 1:=by unfold nz;split <;> omega
theorem nzR_le (l:List Cp) (f:Int) (r:Nat):nzR l f r ≤ 32:=sumN_le (nz_le l f r) 32
theorem nbS_nz (l:List Cp) (f:Int):nbS l f = sumN (nzR l f) 8:=rfl
theorem scr_row {l:List Cp} {f:Int} {r:Nat} (h:r < 8):(scrL l f).getD r ⟨#[]⟩ = strB (rowB l f r):=by
  unfold scrL;rw [List.getD_eq_getElem?_getD,List.getElem?_map,List.getElem?_range h];rfl
def tcB (l:List Cp) (f:Int) (j:Nat):Bool:=decide (f = 0) || (List.range j).any fun i=>decide ((nthC l i).fr = f) || decide ((nthC l i).to = f)
theorem scr_piece {l:List Cp} {x:Cp} {f:Int} (hx:CpOk x) (h1:x.fr ≤ f) (h2:f < x.to) (hat:∀ k:Nat,cov x f x.rw k = true → shB l f x.rw k = bt x.tx ((k:Int) - x.co).toNat):(strB (rowB l f x.rw)).extract x.co.toNat (x.co + (x.tx.size:Int)).toNat = x.tx:=by
  have hc:=hx.co
  have hf:=hx.fit
  apply ByteArray.ext
  apply Array.ext'
  have hl:x.tx.data.toList.length = x.tx.size:=rfl
  have hL:(strB (rowB l f x.rw)).data.toList = (rowB l f x.rw).map fun n=>UInt8.ofNat n.toNat:=rfl
  rw [ByteArray.data_extract,Array.toList_extract,List.extract_eq_take_drop,hL]
  refine List.ext_getElem ?_ fun i a b=>?_
  · rw [List.length_take,List.length_drop,List.length_map,rowB_len,hl];omega
  · have hi:i < x.tx.size:=b
    rw [List.getElem_take,List.getElem_drop,List.getElem_map]
    unfold rowB
    rw [List.getElem_map,List.getElem_range,hat _ (by unfold cov onC;simp only [Bool.and_eq_true,decide_eq_true_eq];exact ⟨⟨trivial,h1,h2⟩,by omega,by omega⟩),show (((x.co.toNat + i:Nat):Int) - x.co).toNat = i by omega]
    exact bt_ofNat b
set_option maxHeartbeats 4000000 in
theorem screens_law {lv:Value} {l:List Cp} {w:World} (h:Rd w lv 5 (cps l)) (n:Int) (hn:0 ≤ n ∧ n ≤ 65535) (x:ByteArray) (hG:GlobR w) (hT:Tab10 w):GivesV Tryz.prog 11 [lv,.int .u16 n,.string x] w (.bool true):=by
  have h':=h
  obtain ⟨a,cp,b,o,rfl,hcap,hmax,ha,hc⟩:=h'
  rw [cps_length] at *
  unfold maxLen at hmax
  refine givesV_of_tr Tryz.func11 rfl rfl ?_
  (refine s_r ?_;refine a_s rfl rfl ?_;refine n_t ?_;refine tr_seq ?_;refine s_r ?_;refine m_v rfl rfl ?_;refine tr_callV (rk_call (.of rfl) (.cons (.of rfl) .nil) inferInstance normc_) rfl (fun w' hm'=>(shortQ_c (Rd.keeps h (Mem.keeps hm')))) ?_;refine tr_val (rk_not (.of rfl)) rfl ?_;refine m_v rfl rfl ?_;refine v_g rfl rfl rfl rfl ?_;refine tr_callVG1 rfl rfl (fun hg=>(rk_call (.of rfl) (.cons (.ofg hg rfl) .nil) inferInstance normc_)) rfl (fun hg w' hm'=>(capsQ_c (Rd.keeps h (Mem.keeps hm')))) ?_;refine tr_vG1 rfl rfl inferInstance (fun hg hgp=>(rk_neq (.ofg hg rfl) (.of rfl))) rfl ?_;refine tr_val (rk_pick_or (.of rfl) rfl) rfl ?_;refine m_v rfl rfl ?_;refine v_g rfl rfl rfl rfl ?_;refine tr_vG1 rfl rfl inferInstance (fun hg hgp=>(rk_len_string (.ofg hg rfl))) rfl ?_;refine tr_vG1 rfl rfl inferInstance (fun hg hgp=>(rk_gtr (.ofg hg rfl) (.of rfl))) rfl ?_;refine tr_val (rk_pick_or (.of rfl) rfl) rfl ?_;refine m_v rfl rfl ?_;refine v_g rfl rfl rfl rfl ?_;refine tr_callVG1 rfl rfl (fun hg=>(rk_call (.of rfl) (.cons (.ofg hg rfl) .nil) inferInstance normc_)) rfl (fun hg w' hm'=>(txtQ_c x w')) ?_;refine tr_vG1 rfl rfl inferInstance (fun hg hgp=>(rk_neq (.ofg hg rfl) (.of rfl))) rfl ?_;refine tr_val (rk_pick_or (.of rfl) rfl) rfl ?_;refine n_t ?_;refine c_b rfl (fun hcd=>?_) (fun hcd=>?_);refine s_r ?_;refine tr_callV (rk_call (.of rfl) .nil inferInstance normc_) rfl (fun w' hm'=>(awake_c w' (GlobR.keeps hG (Mem.keeps hm')) (Tab10.keeps hT (Mem.keeps hm')))) ?_;refine a_s rfl rfl ?_;refine n_t ?_;refine r_t ?_;refine tr_retE rfl (ends1 rfl rfl) ?_;rotate_left;refine s_t ?_;refine s_r ?_;refine m_v rfl rfl ?_;rotate_right)
  · rfl
  obtain ⟨⟨⟨hsho,hcz⟩,h40⟩,hs0⟩:=hcd
  replace hcz:=Decidable.not_not.1 hcz
  replace hs0:=Decidable.not_not.1 hs0
  have hok:=capE_zero.1 hcz
  obtain ⟨hfew,hsz⟩:=shoB_few hsho
  have hlow:=snt_low hs0
  have hsb:=snt_bytes hs0
  have hse:=sntL_eq hs0
  have hkl:=sntK_len x x.size
  have hz1:hrdE (sntK x x.size).length = 0:=by unfold hrdE;rw [if_neg (by omega)]
  obtain ⟨hT1,hW1⟩:=hrd_sent hs0
  have hx1:hrdX (sntK x x.size) = x:=by unfold hrdX;rw [if_pos hz1,hT1,strOf_strB];exact strB_all x
  have hl1:hrdL (sntK x x.size) = []:=by unfold hrdL;rw [if_pos hz1,hkl];exact hW1
  with_reducible apply tr_call
  case hr=>exact rk_call (.of rfl) (.cons (.of rfl) .nil) inferInstance normc_
  case hd=>rfl
  case ht=>exact Takes.nil
  case hc=>
    intro w1 fp hm1 _ hs1
    obtain rfl:fp = []:=hs1
    exact sent_c x _
  intro s1 _
  dsimp only [id_eq,List.cons_append,List.nil_append]
  rw [hs0,hse,hkl]
  refine tr_rowSl (E:=5) (sz:=1) (v:=s1) (by exact .here) fun a1 c1 e=>?_
  subst e
  (refine m_v rfl rfl ?_;refine tr_val (rk_extract (.of rfl) rfl) rfl ?_;refine tr_val (rk_extract (.of rfl) rfl) rfl ?_;refine a_s rfl rfl ?_;refine a_s rfl rfl ?_;refine n_t ?_;refine tr_seq ?_;refine s_r ?_;refine m_v rfl rfl ?_;refine tr_val (rk_neqiS (.of rfl) (.of rfl) rfl) rfl ?_;refine m_v rfl rfl ?_;refine tr_gOn rfl rfl ?_;refine m_v rfl rfl ?_;refine tr_gOn rfl rfl ?_;refine tr_val (rk_len_slice (.of rfl)) rfl ?_;refine tr_gOn rfl rfl ?_;refine m_v rfl rfl ?_;refine tr_gOn rfl rfl ?_;refine tr_val (rk_len_string (.of rfl)) rfl ?_;refine tr_gOn rfl rfl ?_;refine tr_val (rk_neqiS (.of rfl) (.of rfl) rfl) rfl ?_;refine tr_val (rk_pickB (.of rfl) (.of rfl) (.of rfl) rfl) rfl ?_;refine n_t ?_;refine tr_cond_f (.of rfl) ?_;refine s_t ?_;refine s_r ?_;refine m_v rfl rfl ?_)
  with_reducible apply tr_call
  case hr=>exact rk_call (.of rfl) (.cons (.of rfl) .nil) inferInstance normc_
  case hd=>rfl
  case ht=>exact Takes.nil
  case hc=>
    intro w1 fp hm1 _ hs1
    obtain rfl:fp = []:=hs1
    exact bysV_c (byts_rd (E:=5) (v:=.slice a1 x.size c1) hm1 (by exact .here) hkl) (by omega)
  intro v2 _
  dsimp only [id_eq,List.cons_append,List.nil_append]
  skip
  with_reducible apply tr_call
  case hr=>exact rk_call (.of rfl) (.cons (.of rfl) .nil) inferInstance normc_
  case hd=>rfl
  case ht=>exact Takes.nil
  case hc=>
    intro w1 fp hm1 _ hs1
    obtain rfl:fp = []:=hs1
    exact heard_c (byts_rd (E:=5) (v:=v2) hm1 (by exact .here) rfl) hsb
  intro w1 _
  dsimp only [id_eq,List.cons_append,List.nil_append]
  rw [hx1,hl1,hz1]
  refine tr_rowSl (E:=3) (sz:=1) (v:=w1) (by exact .here) fun aw cw e=>?_
  subst e
  apply cut_kS (A:=Tr _ [] [(141,.slice a l.length cp),(0,.slice a l.length cp),(1,.int .u16 n)] [] _)
  · intro key
    (refine m_v rfl rfl ?_;refine tr_val (rk_extract (.of rfl) rfl) rfl ?_;refine tr_val (rk_extract (.of rfl) rfl) rfl ?_;refine tr_val (rk_extract (.of rfl) rfl) rfl ?_;refine a_s rfl rfl ?_;refine a_s rfl rfl ?_;refine a_s rfl rfl ?_;refine n_t ?_;refine tr_seq ?_;refine s_r ?_;refine m_v rfl rfl ?_;refine tr_val (rk_neqiS (.of rfl) (.of rfl) rfl) rfl ?_;refine m_v rfl rfl ?_;refine tr_gOn rfl rfl ?_;refine m_v rfl rfl ?_;refine tr_gOn rfl rfl ?_;refine m_v rfl rfl ?_;refine tr_gOn rfl rfl ?_;refine tr_val (rk_neqsS (.of rfl) (.of rfl) rfl) rfl ?_;refine tr_val (rk_pickB (.of rfl) (.of rfl) (.of rfl) rfl) rfl ?_;refine m_v rfl rfl ?_;refine tr_gOn rfl rfl ?_;refine m_v rfl rfl ?_;refine tr_gOn rfl rfl ?_;refine tr_val (rk_len_slice (.of rfl)) rfl ?_;refine tr_gOn rfl rfl ?_;refine tr_val (rk_neq (.of rfl) (.of rfl)) rfl ?_;refine tr_val (rk_pickB (.of rfl) (.of rfl) (.of rfl) rfl) rfl ?_;refine n_t ?_;refine tr_cond_f (.of rfl) ?_;refine s_t ?_;refine tr_seq ?_;refine s_r ?_;refine m_v rfl rfl ?_;refine tr_val (rk_len_string (.of rfl)) rfl ?_;refine tr_val (rk_gtr (.of rfl) (.of rfl)) rfl ?_;refine n_t ?_;refine c_d rfl (fun hcd=>?_) (fun hcd=>?_);refine s_r ?_;refine m_v rfl rfl ?_;refine tr_val (rk_conv (.of rfl)) rfl ?_;refine m_v rfl rfl ?_;refine tr_val (rk_len_string (.of rfl)) rfl ?_;refine tr_val (rk_remT (.of rfl) (.of rfl) (by omega)) rfl ?_;refine a_s rfl rfl ?_;refine n_r ?_;refine m_v rfl rfl ?_;rotate_left;refine s_t ?_;refine s_r ?_;refine m_v rfl rfl ?_;rotate_right)
    · obtain ⟨k,hk,hkx⟩:∃ k:Nat,(IntKind.i64.wrap n).tmod ((x.size:Nat):Int) = (k:Nat) ∧ k < x.size:=by
        rw [i64w (by omega),Int.tmod_eq_emod_of_nonneg hn.1]
        have e0:=Int.emod_nonneg n (show ((x.size:Nat):Int) ≠ 0 by omega)
        have e1:=Int.emod_lt_of_pos n (show (0:Int) < (x.size:Nat) by omega)
        exact ⟨(n % ((x.size:Nat):Int)).toNat,by omega,by omega⟩
      obtain ⟨b',hb',hb8⟩:∃ b:Nat,n % 8 = b ∧ b < 8:=⟨(n % 8).toNat,by omega,by omega⟩
      rw [hk]
      refine tr_cutW [(101,.slice a1 x.size c1),(12,.int .i64 (k:Nat)),(2,.string x),(0,.slice a l.length cp),(1,.int .u16 n)] [row 5 1 (.slice a1 x.size c1) x.size (bytsV (sntK x x.size))] (by exact .cons rfl (.cons rfl (.cons rfl (.cons rfl (.cons rfl .nil))))) (by exact .cons (.there (.there .here)) .nil) ?_
      have hKg:k < (sntK x x.size).length:=by rw [hkl];exact hkx
      obtain ⟨hT2,hW2⟩:=hrd_wrong hs0 hkx hb8
      have hxb:=xorF_byte ((sntK x x.size).getD k 0) ((2 ^ b':Nat):Int)
      with_reducible apply tr_call
      case hr=>exact rk_call (.of rfl) (.cons (.of rfl) .nil) inferInstance normc_
      case hd=>rfl
      case ht=>exact Takes.nil
      case hc=>
        intro w1 fp hm1 _ hs1
        obtain rfl:fp = []:=hs1
        exact bysV_c (byts_rd (E:=5) (v:=.slice a1 x.size c1) hm1 (by exact .here) hkl) (by omega)
      intro wv _
      dsimp only [id_eq,List.cons_append,List.nil_append]
      rw [hkl]
      refine tr_rowOpen (E:=5) (sz:=1) (v:=wv) (by exact .here) (show 0 < x.size by omega) ?_
      rintro gw cw2 curw rfl hcw hmw hzw hxw
      have g0:(bytsV (sntK x x.size)++curw)[k * 1]? = some (.int .u8 ((sntK x x.size).getD k 0)):=by
        rw [Nat.mul_one,bytsV_wcS,List.getElem?_append_left (by rw [List.length_map];exact hKg)]
        unfold wcells
        rw [List.getElem?_map,List.getElem?_eq_getElem hKg,List.getD_eq_getElem?_getD,List.getElem?_eq_getElem hKg];rfl
      have g1:setCells (bytsV (sntK x x.size)++curw) (k * 1) [.int .u8 (xorF ((sntK x x.size).getD k 0) ((2 ^ b':Nat):Int))] = bytsV ((sntK x x.size).set k (xorF ((sntK x x.size).getD k 0) ((2 ^ b':Nat):Int)))++curw:=by
        rw [Nat.mul_one,bytsV_wcS,bytsV_wcS]
        show (wcells (sntK x x.size)++curw).set k _ = _
        rw [List.set_append_left _ _ (by rw [List.length_map];exact hKg)]
        unfold wcells
        rw [List.map_set]
      have g2:k * 1 + 1 ≤ (bytsV (sntK x x.size)++curw).length:=by rw [List.length_append,bytsV_len,hkl];omega
      (refine a_s rfl rfl ?_;refine n_r ?_;refine m_v rfl rfl ?_;refine m_v rfl rfl ?_;refine tr_val (rk_indexAddr (.of rfl) (.of rfl) rfl (by omega) (by omega) norm1_) rfl ?_;refine tr_val (rk_load1 (.of rfl) (At.blkL .here g0)) rfl ?_;refine m_v rfl rfl ?_)
      refine tr_val (rk_rem16 (.of rfl) (.of rfl) hn.1 (by decide)) rfl ?_
      refine tr_val (rk_shlS ((2 ^ b':Nat):Int) (.of rfl) (.of rfl) (by omega) (by show n % 8 ≤ 8;omega) (by rw [show (n % 8).toNat = b' by omega];exact shl_bitS b' hb8)) rfl ?_
      (refine tr_val (rk_xor8 (.of rfl) (.of rfl)) rfl ?_;refine tr_val (rk_indexAddr (.of rfl) (.of rfl) rfl (by omega) (by omega) norm1_) rfl ?_;refine tr_store (.of rfl) (.of rfl) .here rfl rfl (okc_cons rfl okc_nil) g2 g1 ?_;refine n_r ?_;refine m_v rfl rfl ?_)
      have hDl:((sntK x x.size).set k (xorF ((sntK x x.size).getD k 0) ((2 ^ b':Nat):Int))).length = x.size:=by rw [List.length_set,hkl]
      have hDb:∀ y ∈ (sntK x x.size).set k (xorF ((sntK x x.size).getD k 0) ((2 ^ b':Nat):Int)),0 ≤ y ∧ y ≤ 255:=fun y hy=>by
        rcases List.mem_or_eq_of_mem_set hy with h | h
        · exact hsb y h
        · rw [h];exact hxb
      generalize (sntK x x.size).set k (xorF ((sntK x x.size).getD k 0) ((2 ^ b':Nat):Int)) = DS at *
      refine tr_rowShut (g:=gw) (E:=5) (sz:=1) (n:=x.size) (cap:=cw2) (xs:=bytsV DS) (cur:=curw) (by exact .here) hcw hmw (by rw [List.length_append,bytsV_len,hDl];rw [List.length_append,bytsV_len,hkl] at hzw;exact hzw) (by rw [bytsV_len,hDl]) ?_
      have hz2:hrdE DS.length = 0:=by unfold hrdE;rw [if_neg (by omega)]
      have hx2:hrdX DS = x.extract 0 k++⟨#[63]⟩++x.extract (k + 1) x.size:=by unfold hrdX;rw [if_pos hz2,hT2,strOf_strB];exact strB_set hkx
      have hl2:hrdL DS = [k]:=by unfold hrdL;rw [if_pos hz2,hDl];exact hW2
      with_reducible apply tr_call
      case hr=>exact rk_call (.of rfl) (.cons (.of rfl) .nil) inferInstance normc_
      case hd=>rfl
      case ht=>exact Takes.nil
      case hc=>
        intro w1 fp hm1 _ hs1
        obtain rfl:fp = []:=hs1
        exact heard_c (byts_rd (E:=5) (v:=.slice (some ⟨gw,0,none⟩) x.size cw2) hm1 (by exact .here) hDl) hDb
      intro w2 _
      dsimp only [id_eq,List.cons_append,List.nil_append]
      rw [hx2,hl2,hz2]
      (refine m_v rfl rfl ?_;refine tr_val (rk_extract (.of rfl) rfl) rfl ?_;refine tr_val (rk_extract (.of rfl) rfl) rfl ?_;refine tr_val (rk_extract (.of rfl) rfl) rfl ?_;refine a_s rfl rfl ?_;refine a_s rfl rfl ?_;refine a_s rfl rfl ?_;refine n_t ?_;refine tr_seq ?_)
      have hE1:(x.extract 0 k).size ≤ 40:=by rw [ByteArray.size_extract];omega
      have hE2:(x.extract 0 k++(⟨#[63]⟩:ByteArray)).size ≤ 41:=by rw [ByteArray.size_append];show _ + 1 ≤ 41;omega
      have hE3:(x.extract (k + 1) x.size).size ≤ 40:=by rw [ByteArray.size_extract];omega
      with_reducible refine tr_drawM 22 (by kernel_rfl) ?_
      (refine am_val (fun β=>(rk_move (.of rfl))) indC rfl ?_;refine am_val (fun β=>(rk_neqiS (.of rfl) (.of rfl) rfl)) indC rfl ?_;refine am_val (fun β=>(rk_move (.of rfl))) indC rfl ?_;refine am_gOn rfl (fun _=>rfl) ?_;refine am_val (fun β=>(rk_move (.of rfl))) indC rfl ?_;refine am_gOn rfl (fun _=>rfl) ?_;refine am_val (fun β=>(rk_move (.of rfl))) indC rfl ?_;refine am_gOn rfl (fun _=>rfl) ?_;refine am_val (fun β=>(rk_move (.of rfl))) indC rfl ?_;refine am_gOn rfl (fun _=>rfl) ?_;refine am_val (fun β=>(rk_sliceS_h (.of rfl) (.of rfl) (by omega) (by omega))) indC rfl ?_)
      refine am_gOn rfl (fun _=>rfl) ?_
      refine am_val (F:=fun _=>.string (x.extract 0 k++⟨#[63]⟩)) (fun β=>rk_cat (a:=x.extract 0 k) (b:=⟨#[63]⟩) (.of rfl) (.of rfl) (by show _ + 1 ≤ 9223372036854775807;omega)) indC rfl ?_
      (refine am_gOn rfl (fun _=>rfl) ?_;refine am_val (fun β=>(rk_move (.of rfl))) indC rfl ?_;refine am_gOn rfl (fun _=>rfl) ?_;refine am_val (fun β=>(rk_move (.of rfl))) indC rfl ?_;refine am_gOn rfl (fun _=>rfl) ?_;refine am_val (fun β=>(rk_add (.of rfl) (.of rfl) (ini (by omega)))) indC rfl ?_;refine am_gOn rfl (fun _=>rfl) ?_;refine am_val (fun β=>(rk_sliceS_l (.of rfl) (.of rfl) (by omega) (by omega))) indC rfl ?_)
      refine am_gOn rfl (fun _=>rfl) ?_
      refine am_val (F:=fun _=>.string (x.extract 0 k++⟨#[63]⟩++x.extract (k + 1) x.size)) (fun β=>rk_cat (a:=x.extract 0 k++⟨#[63]⟩) (b:=x.extract (k + 1) x.size) (.of rfl) (.of rfl) (by omega)) indC rfl ?_
      (refine am_gOn rfl (fun _=>rfl) ?_;refine am_val (fun β=>(rk_neqsS (.of rfl) (.of rfl) rfl)) indC rfl ?_;refine am_val (fun β=>(rk_pickB (.of rfl) (.of rfl) (.of rfl) rfl)) indC rfl ?_;refine am_val (fun β=>(rk_move (.of rfl))) indC rfl ?_;refine am_gOn rfl (fun _=>rfl) ?_;refine am_val (fun β=>(rk_move (.of rfl))) indC rfl ?_;refine am_gOn rfl (fun _=>rfl) ?_;refine am_val (fun β=>(rk_move (.of rfl))) indC rfl ?_)
      dsimp only [Nat.zero_add,Nat.reduceAdd]
      refine am_gOn rfl (fun _=>rfl) ?_
      refine am_new (fun β=>(rk_sliceLit (.cons (.of rfl) .nil) rfl rfl rfl rfl)) (fun _ _ _=>rfl) rfl ?_
      dsimp only [Nat.reduceAdd]
      refine am_gOn rfl (fun _=>rfl) ?_
      with_reducible apply am_callV (B:=[18]) (F:=fun _=>.bool true) (args:=fun β=>[w2,.slice (some ⟨gnat (β 18),0,none⟩) 1 1])
      case hB=>first | rfl | kernel_rfl
      case hr=>exact fun β=>rk_call (.of rfl) (.cons (.of rfl) (.cons (.of rfl) .nil)) inferInstance rfl
      case hi=>exact ind0
      case hd=>rfl
      case hc=>
        intro β w' hb
        have m2:=hb.at 18 List.mem_cons_self (s:=⟨fun β=>.slice (some ⟨gnat (β 18),0,none⟩) 1 1,fun β=>[blk (gnat (β 18)) (.cells #[.int .i64 (k:Nat)] 3)]⟩) (by kernel_rfl)
        dsimp only [List.cons_append,List.nil_append] at m2
        have s1:=intg_rd (E:=3) (v:=w2) (l:=[(k:Int)]) (n:=1) m2 (show Take _ (row 3 1 w2 [k].length (natsV [k])) _ from by exact Take.there .here) rfl
        have s3:=sameI_t (m:=[(k:Int)]) s1 (Mem.rdBlk m2 (by exact .here) rfl rfl)
        rw [decide_eq_true rfl] at s3
        exact s3
      dsimp only [Nat.reduceAdd]
      (refine am_gOn rfl (fun _=>rfl) ?_;refine am_val (fun β=>(rk_not (.of rfl))) indC rfl ?_;refine am_val (fun β=>(rk_pickB (.of rfl) (.of rfl) (.of rfl) rfl)) indC rfl ?_)
      refine am_end fun β=>?_
      dsimp only [resAll,List.nil_append,List.cons_append,List.append_eq,Nat.reduceAdd]
      with_reducible refine left_done (by kernel_rfl) ?_
      (refine tr_then ?_;refine tr_cond_f (.of rfl) ?_;refine s_t ?_;refine s_r ?_;refine m_v rfl rfl ?_)
      exact tr_cutW _ _ (by exact .cons rfl (.cons rfl (.cons rfl .nil))) (by exact .nil) key
    · exact tr_cutW _ _ (by exact .cons rfl (.cons rfl (.cons rfl .nil))) (by exact .nil) key
  with_reducible apply tr_call
  case hr=>exact rk_call (.of rfl) (.cons (.of rfl) .nil) inferInstance normc_
  case hd=>rfl
  case ht=>exact Takes.nil
  case hc=>
    intro w1 fp hm1 _ hs1
    obtain rfl:fp = []:=hs1
    exact capsV_c (h.keeps hm1.keeps) (by omega)
  intro u1 _
  dsimp only [id_eq,List.cons_append,List.nil_append]
  skip
  with_reducible apply tr_call
  case hr=>exact rk_call (.of rfl) (.cons (.of rfl) .nil) inferInstance normc_
  case hd=>rfl
  case ht=>exact Takes.nil
  case hc=>
    intro w1 fp hm1 _ hs1
    obtain rfl:fp = []:=hs1
    exact changes_c (cps_rd (E:=195) (v:=u1) hm1 (by exact .here) rfl) hsz
  intro cv _
  dsimp only [id_eq,List.cons_append,List.nil_append]
  rw [hcz]
  (refine m_v rfl rfl ?_;refine tr_val (rk_extract (.of rfl) rfl) rfl ?_;refine tr_val (rk_extract (.of rfl) rfl) rfl ?_;refine a_s rfl rfl ?_;refine a_s rfl rfl ?_;refine n_t ?_;refine tr_seq ?_;refine s_r ?_;refine m_v rfl rfl ?_;refine tr_val (rk_neqiS (.of rfl) (.of rfl) rfl) rfl ?_;refine n_t ?_;refine tr_cond_f (.of rfl) ?_;refine s_t ?_;refine s_r ?_;refine m_v rfl rfl ?_;refine tr_val (rk_conv (.of rfl)) rfl ?_;refine tr_new (rk_sliceLit (.cons (.of rfl) .nil) rfl rfl rfl rfl) rfl (fun _ _=>?_);refine a_s rfl rfl ?_;refine n_t ?_;refine tr_seq ?_;refine s_r ?_;refine m_v rfl rfl ?_;refine tr_val (rk_len_slice (.of rfl)) rfl ?_;refine m_v rfl rfl ?_;refine n_t ?_;refine tr_block ?_)
  rename_i bq _
  rw [i64w (by omega)]
  refine tr_rowLitE (g:=bq) (E:=3) (ys:=[.int .i64 n]) 1 1 (by exact .here) rfl rfl rfl ?_
  refine tr_for (ι:=Nat × Value) (fun x=>x.1 ≤ l.length) (fun x=>[(153,.int .i64 (x.1:Nat)),(152,.int .i64 (l.length:Nat)),(151,.slice a l.length cp),(19,x.2),(17,cv),(0,.slice a l.length cp),(1,.int .u16 n)]) (fun x=>[row 3 1 x.2 (3 * x.1 + 1) (intgV (frL n (l.take x.1))),row 3 1 cv (chX l).length (intgV (chX l))]) (fun x=>l.length - x.1) ?_ ?_
  · apply tr_start (0,.slice (some ⟨bq,0,none⟩) 1 1) (Nat.zero_le _)
    case hs1=>exact .cons rfl (.cons rfl (.cons rfl (.cons rfl (.cons rfl (.cons rfl (.cons rfl .nil))))))
    case ht=>
      show Takes _ [row 3 1 (.slice (some ⟨bq,0,none⟩) 1 1) 1 [.int .i64 n],row 3 1 cv (chX l).length (intgV (chX l))] _
      exact .cons .here (.cons .here .nil)
  rintro ⟨k,v⟩ hk
  dsimp only at hk ⊢
  by_cases hlt:k < l.length
  · have ha':=ha (cps_ne hlt)
    have hcell:=(hc k _ (cps_get hlt)).2
    have htk:=frL_take n hlt
    have hlk:(l.take k).length = k:=List.length_take_of_le (by omega)
    have hol:(intgV (frL n (l.take k))).length = (3 * k + 1) * 1:=by rw [intgV_len,frL_len,hlk]
    have hxo:=(show CpOk l[k] by have:=hok.ok k hlt;rwa [nthC_get hlt] at this)
    generalize l[k] = x at hcell htk hxo
    have hx1:=hxo.sp
    dsimp only [Cp.cells] at hcell
    (refine s_r ?_;refine tr_val (rk_lss (.of rfl) (.of rfl)) rfl ?_;refine n_t ?_;refine tr_seq ?_;refine c_d rfl (fun hcd=>?_) (fun _=>by omega);refine s_t ?_;refine tr_seq ?_;refine tr_block ?_;refine s_r ?_;refine tr_val (rk_indexAddr (.of rfl) (.of rfl) ha' (by omega) hcd norm1_) rfl ?_;refine tr_val (rk_loadN (.of rfl) (Ats.base hcell rfl) rfl) rfl ?_;refine tr_new (rk_alloc rfl) rfl (fun _ _=>?_);refine tr_store (.of rfl) (.of rfl) .here rfl rfl (okc_cons rfl (okc_cons rfl (okc_cons rfl (okc_cons rfl (okc_cons rfl okc_nil))))) (lenb rfl) norm_ ?_;refine n_t ?_;refine tr_region ?_;refine m_v rfl rfl ?_;refine f_a rfl rfl norm0_ ?_;refine f_a rfl rfl norm0_ ?_;refine tr_val (rk_load1 (.of rfl) (At.lit .here rfl)) rfl ?_;refine f_a rfl rfl norm0_ ?_;refine f_a rfl rfl norm0_ ?_;refine tr_val (rk_load1 (.of rfl) (At.lit .here rfl)) rfl ?_;refine f_a rfl rfl norm0_ ?_;refine f_a rfl rfl norm0_ ?_;refine tr_val (rk_load1 (.of rfl) (At.lit .here rfl)) rfl ?_;refine tr_val (rk_sub (.of rfl) (.of rfl) (ini (by omega))) rfl ?_;refine tr_new (rk_sliceLit (.cons (.of rfl) (.cons (.of rfl) (.cons (.of rfl) .nil))) rfl rfl rfl rfl) rfl (fun _ _=>?_))
    refine tr_appendB (.of rfl) (.of rfl) (.there (.there .here)) .here norm_ (by rfl) (okc_cons rfl (okc_cons rfl (okc_cons rfl okc_nil))) (by rfl) (by rfl) (by rfl) lenx_ (by rfl) ?_
    intro v'
    (refine a_s rfl rfl ?_;refine tr_nil ?_;refine tr_blk_normal ?_;refine tr_then ?_;refine tr_region ?_;refine tr_val (rk_add (.of rfl) (.of rfl) (ini (by omega))) rfl ?_;refine m_v rfl rfl ?_;refine n_t ?_)
    apply tr_next (k + 1,v') (by show k + 1 ≤ l.length;omega) (by show l.length - (k + 1) < l.length - k;omega)
    case hs1=>exact .cons rfl (.cons rfl (.cons rfl (.cons rfl (.cons rfl (.cons rfl (.cons rfl .nil))))))
    case ht=>
      show Takes _ [row 3 1 v' (3 * k + 1 + 3) (intgV (frL n (l.take (k + 1)))),row 3 1 cv (chX l).length (intgV (chX l))] _
      rw [htk]
      exact .cons .here (.cons (.there (.there .here)) .nil)
  obtain rfl:k = l.length:=by omega
  rw [List.take_length]
  have hFl:=frL_len n l
  have hFi:∀ y ∈ frL n l,-1 ≤ y ∧ y ≤ 10000000:=by
    intro y hy
    unfold frL at hy
    rcases List.mem_cons.1 hy with rfl | hy
    · omega
    · obtain ⟨c,hc1,hy⟩:=List.mem_flatMap.1 hy
      obtain ⟨i,hi,rfl⟩:=List.getElem_of_mem hc1
      have h1:=hok.ok i hi
      rw [nthC_get hi] at h1
      have:=h1.sp
      simp only [List.mem_cons,List.not_mem_nil,or_false] at hy
      rcases hy with rfl | rfl | rfl <;> omega
  have hF0:∀ y ∈ frL n l,0 ≤ y:=by
    intro y hy
    unfold frL at hy
    rcases List.mem_cons.1 hy with rfl | hy
    · omega
    · obtain ⟨c,hc1,hy⟩:=List.mem_flatMap.1 hy
      obtain ⟨i,hi,rfl⟩:=List.getElem_of_mem hc1
      have h1:=hok.ok i hi
      rw [nthC_get hi] at h1
      have:=h1.sp
      simp only [List.mem_cons,List.not_mem_nil,or_false] at hy
      rcases hy with rfl | rfl | rfl <;> omega
  generalize frL n l = F at *
  rw [← hFl]
  refine tr_rowSl (E:=3) (sz:=1) (v:=v) (by exact .here) fun af cf e=>?_
  subst e
  (refine s_r ?_;refine tr_val (rk_lss (.of rfl) (.of rfl)) rfl ?_;refine n_t ?_;refine tr_seq ?_;refine c_d rfl (fun _=>by omega) (fun hcd=>?_);refine x_t ?_;refine tr_then_exit ?_;refine tr_blk_exit ?_;refine tr_then ?_;refine tr_seq ?_;refine s_r ?_;refine m_v rfl rfl ?_;refine tr_val (rk_len_slice (.of rfl)) rfl ?_;refine m_v rfl rfl ?_;refine n_t ?_;refine tr_block ?_)
  refine tr_rowOpen (E:=3) (sz:=1) (v:=.slice af F.length cf) (by exact .here) (show 0 < F.length by omega) ?_
  intro gf cf2 curf hef hcf2 hmxf hszf hxlf
  cases hef
  have hcx:∀ f:Int,0 ≤ f → (chX l).contains f = chB l f:=fun f h0=>by
    rw [Bool.eq_iff_iff,List.contains_iff_mem]
    unfold chX
    rw [if_pos hcz,List.mem_map]
    constructor
    · rintro ⟨m,hm,rfl⟩
      exact (chL_mem.1 hm).2
    · intro hc
      refine ⟨f.toNat,chL_mem.2 ?_,Int.toNat_of_nonneg h0⟩
      rw [Int.toNat_of_nonneg h0]
      exact ⟨ch_end hc,hc⟩
  refine tr_for (ι:=Nat) (fun q=>q ≤ F.length) (fun q=>[(173,.int .i64 (q:Nat)),(172,.int .i64 (F.length:Nat)),(171,.slice (some ⟨gf,0,none⟩) F.length cf),(17,cv),(0,.slice a l.length cp),(1,.int .u16 n)]) (fun q=>[blk gf (.cells (intgV F++curf).toArray 3 (0,0)),row 3 1 cv (chX l).length (intgV (chX l))]) (fun q=>F.length - q) ?_ ?_
  · apply tr_start 0 (show (0:Nat) ≤ F.length from Nat.zero_le _)
    case hs1=>exact .cons rfl (.cons rfl (.cons rfl (.cons rfl (.cons rfl (.cons rfl .nil)))))
    case ht=>exact .cons .here (.cons .here .nil)
  intro q hq
  by_cases hql:q < F.length
  · have q0:(intgV F++curf)[q * 1]? = some (.int .i64 F[q]):=by
      rw [Nat.mul_one,List.getElem?_append_left (by rw [intgV_length];omega),intgV_eq,List.getElem?_map,List.getElem?_eq_getElem hql];rfl
    have hf1:=hFi _ (List.getElem_mem hql)
    have hf0:=hF0 _ (List.getElem_mem hql)
    generalize F[q] = f at q0 hf1 hf0
    have hnE:shnE l f = 0:=by
      exact shnE_zero.2 ⟨hok,hf0,hf1.2⟩
    (refine s_r ?_;refine tr_val (rk_lss (.of rfl) (.of rfl)) rfl ?_;refine n_t ?_;refine tr_seq ?_;refine c_d rfl (fun hcd=>?_) (fun _=>by omega);refine s_t ?_;refine tr_seq ?_;refine tr_block ?_;refine s_r ?_;refine tr_val (rk_indexAddr (.of rfl) (.of rfl) rfl (by omega) hcd norm1_) rfl ?_;refine tr_val (rk_load1 (.of rfl) (At.blkL .here q0)) rfl ?_;refine a_s rfl rfl ?_;refine n_r ?_;refine m_v rfl rfl ?_)
    with_reducible apply tr_call
    case hr=>exact rk_call (.of rfl) (.cons (.of rfl) .nil) inferInstance normc_
    case hd=>rfl
    case ht=>exact Takes.nil
    case hc=>
      intro w1 fp hm1 _ hs1
      obtain rfl:fp = []:=hs1
      exact capsV_c (h.keeps hm1.keeps) (by omega)
    intro u2 _
    dsimp only [id_eq,List.cons_append,List.nil_append]
    refine m_v rfl rfl ?_
    with_reducible apply tr_callV
    case hr=>exact rk_call (.of rfl) (.cons (.of rfl) (.cons (.of rfl) .nil)) inferInstance normc_
    case hd=>rfl
    case hc=>
      intro w' hm'
      exact shownX_c (cps_rd (E:=195) (v:=u2) hm' (by exact .here) rfl) hsz
    rw [hnE,show shnX l f = scrL l f by unfold shnX;rw [if_pos hnE]]
    obtain ⟨z0,z1,z2,z3,z4,z5,z6,z7,hZ⟩:∃ z0 z1 z2 z3 z4 z5 z6 z7:ByteArray,scrL l f = [z0,z1,z2,z3,z4,z5,z6,z7]:=⟨_,_,_,_,_,_,_,_,rfl⟩
    rw [hZ]
    dsimp only [List.map]
    (refine m_v rfl rfl ?_;refine tr_val (rk_extract (.of rfl) rfl) rfl ?_;refine tr_val (rk_extract (.of rfl) rfl) rfl ?_;refine tr_new (rk_alloc rfl) rfl (fun _ _=>?_);refine tr_store (.of rfl) (.of rfl) .here rfl rfl (okc_cons rfl (okc_cons rfl (okc_cons rfl (okc_cons rfl (okc_cons rfl (okc_cons rfl (okc_cons rfl (okc_cons rfl okc_nil)))))))) (lenb rfl) norm_ ?_;refine a_s rfl rfl ?_;refine n_t ?_;refine tr_seq ?_;refine s_r ?_;refine m_v rfl rfl ?_;refine tr_val (rk_neqiS (.of rfl) (.of rfl) rfl) rfl ?_;refine n_t ?_;refine tr_cond_f (.of rfl) ?_;refine s_t ?_;refine s_r ?_;refine a_s rfl rfl ?_;refine n_t ?_;refine tr_seq ?_;refine s_r ?_;refine tr_val (rk_loadB (.of rfl) .here norm_ (by rfl)) rfl ?_;refine m_v rfl rfl ?_;refine n_t ?_;refine tr_block ?_)
    rename_i b24 hb24
    refine tr_for (ι:=Nat) (fun r=>r ≤ 8) (fun r=>[(187,.int .i64 (r:Nat)),(186,.agg #[.string z0,.string z1,.string z2,.string z3,.string z4,.string z5,.string z6,.string z7]),(26,.int .i64 (sumN (nzR l f) r:Nat)),(24,.pointer (some ⟨b24,0,none⟩)),(23,.int .i64 f),(173,.int .i64 (q:Nat)),(172,.int .i64 (F.length:Nat)),(171,.slice (some ⟨gf,0,none⟩) F.length cf),(17,cv),(0,.slice a l.length cp),(1,.int .u16 n)]) (fun r=>[blk b24 (.cells #[.string z0,.string z1,.string z2,.string z3,.string z4,.string z5,.string z6,.string z7] 99 (0,0)),blk gf (.cells (intgV F++curf).toArray 3 (0,0)),row 3 1 cv (chX l).length (intgV (chX l))]) (fun r=>8 - r) ?_ ?_
    · apply tr_start 0 (show (0:Nat) ≤ 8 by omega)
      case hs1=>exact .cons rfl (.cons rfl (.cons rfl (.cons rfl (.cons rfl (.cons rfl (.cons rfl (.cons rfl (.cons rfl (.cons rfl (.cons rfl .nil))))))))))
      case ht=>exact .cons .here (.cons (.there .here) (.cons (.there .here) .nil))
    intro r hr
    by_cases hr8:r < 8
    · obtain ⟨S,hS⟩:∃ S,strB (rowB l f r) = S:=⟨_,rfl⟩
      have hpt:partOf false 1 [.string z0,.string z1,.string z2,.string z3,.string z4,.string z5,.string z6,.string z7] (((r:Nat):Int).toNat * 1) = some (.string S):=by
        rw [← hS,← scr_row hr8,hZ]
        have:r = 0 ∨ r = 1 ∨ r = 2 ∨ r = 3 ∨ r = 4 ∨ r = 5 ∨ r = 6 ∨ r = 7:=by omega
        rcases this with rfl | rfl | rfl | rfl | rfl | rfl | rfl | rfl <;> rfl
      have hS32:S.size = 32:=by rw [← hS,strB_size,rowB_len]
      have hbt:∀ k,k < 32 → bt S k = shB l f r k:=fun k hk=>by
        rw [← hS,strB_bt (fun x hx=>by
          unfold rowB at hx
          obtain ⟨j,_,rfl⟩:=List.mem_map.1 hx
          have:=shB_byte hok f r j
          omega) (by rw [rowB_len];exact hk)]
        unfold rowB
        rw [List.getElem_map,List.getElem_range]
      have hA:=sumN_le (f:=nzR l f) (nzR_le l f) r
      generalize hAe:sumN (nzR l f) r = A at hA
      (refine s_r ?_;refine tr_val (rk_lss (.of rfl) (.of rfl)) rfl ?_;refine n_t ?_;refine tr_seq ?_;refine c_d rfl (fun hcd=>?_) (fun _=>by omega);refine s_t ?_;refine tr_seq ?_;refine tr_block ?_;refine s_r ?_)
      refine tr_val (rk_index (cs:=[.string z0,.string z1,.string z2,.string z3,.string z4,.string z5,.string z6,.string z7]) (.of rfl) (.of rfl) (by omega) (by omega) hpt) rfl ?_
      (refine a_s rfl rfl ?_;refine n_t ?_;refine tr_seq ?_;refine s_r ?_;refine m_v rfl rfl ?_;refine tr_val (rk_len_string (.of rfl)) rfl ?_;refine tr_val (rk_neq (.of rfl) (.of rfl)) rfl ?_;refine n_t ?_;refine c_d rfl (fun _=>by omega) (fun hcd=>?_);refine s_t ?_;refine s_r ?_;refine m_v rfl rfl ?_;refine tr_val (rk_len_string (.of rfl)) rfl ?_;refine m_v rfl rfl ?_;refine n_t ?_;refine tr_block ?_)
      rw [hS32]
      refine tr_for (ι:=Nat) (fun k=>k ≤ 32) (fun k=>[(195,.int .i64 (k:Nat)),(194,.int .i64 (32:Nat)),(28,.string S),(187,.int .i64 (r:Nat)),(186,.agg #[.string z0,.string z1,.string z2,.string z3,.string z4,.string z5,.string z6,.string z7]),(26,.int .i64 (A + sumN (nz l f r) k:Nat)),(24,.pointer (some ⟨b24,0,none⟩)),(23,.int .i64 f),(173,.int .i64 (q:Nat)),(172,.int .i64 (F.length:Nat)),(171,.slice (some ⟨gf,0,none⟩) F.length cf),(17,cv),(0,.slice a l.length cp),(1,.int .u16 n)]) (fun k=>[blk b24 (.cells #[.string z0,.string z1,.string z2,.string z3,.string z4,.string z5,.string z6,.string z7] 99 (0,0)),blk gf (.cells (intgV F++curf).toArray 3 (0,0)),row 3 1 cv (chX l).length (intgV (chX l))]) (fun k=>32 - k) ?_ ?_
      · apply tr_start 0 (show (0:Nat) ≤ 32 by omega)
        case hs1=>exact .cons rfl (.cons rfl (.cons rfl (.cons rfl (.cons rfl (.cons rfl (.cons rfl (.cons rfl (.cons rfl (.cons rfl (.cons rfl (.cons rfl (.cons rfl (.cons rfl .nil)))))))))))))
        case ht=>exact .cons .here (.cons .here (.cons .here .nil))
      intro k hk
      by_cases hk32:k < 32
      · have hB:=sumN_le (nz_le l f r) k
        have hb:=hbt k hk32
        unfold bt at hb
        have hst:sumN (nz l f r) (k + 1) = sumN (nz l f r) k + nz l f r k:=rfl
        generalize sumN (nz l f r) k = B at hB hst
        have hkS:k < S.size:=by omega
        (refine s_r ?_;refine tr_val (rk_lss (.of rfl) (.of rfl)) rfl ?_;refine n_t ?_;refine tr_seq ?_;refine c_d rfl (fun hcd=>?_) (fun _=>by omega);refine s_t ?_;refine tr_seq ?_;refine tr_block ?_;refine s_r ?_;refine m_v rfl rfl ?_;refine a_s rfl rfl ?_;refine n_r ?_;refine m_v rfl rfl ?_;refine m_v rfl rfl ?_;refine tr_val (rk_indexS (.of rfl) (.of rfl) (by omega) (by omega)) rfl ?_;refine tr_val (rk_neq (.of rfl) (.of rfl)) rfl ?_;refine n_t ?_;refine c_d rfl (fun hcd=>?_) (fun hcd=>?_);refine tr_region ?_;refine m_v rfl rfl ?_;refine tr_val (rk_add (.of rfl) (.of rfl) (ini (by omega))) rfl ?_;refine a_s rfl rfl ?_;refine tr_nil ?_;refine tr_blk_normal ?_;refine tr_then ?_;refine tr_region ?_;refine tr_val (rk_add (.of rfl) (.of rfl) (ini (by omega))) rfl ?_;refine m_v rfl rfl ?_;refine n_t ?_;rotate_left;refine tr_skip ?_;refine tr_blk_normal ?_;refine tr_then ?_;refine tr_region ?_;refine tr_val (rk_add (.of rfl) (.of rfl) (ini (by omega))) rfl ?_;refine m_v rfl rfl ?_;refine n_t ?_;rotate_right)
        · have hz:nz l f r k = 1:=by unfold nz;rw [if_pos (by rw [← hb];exact hcd)]
          apply tr_next (k + 1) (show k + 1 ≤ 32 by omega) (show 32 - (k + 1) < 32 - k by omega)
          case hs1=>
            rw [hst,hz,show ((A + (B + 1):Nat):Int) = ((A + B:Nat):Int) + 1 by omega]
            exact .cons rfl (.cons rfl (.cons rfl (.cons rfl (.cons rfl (.cons rfl (.cons rfl (.cons rfl (.cons rfl (.cons rfl (.cons rfl (.cons rfl (.cons rfl (.cons rfl .nil)))))))))))))
          case ht=>exact .cons .here (.cons .here (.cons .here .nil))
        · have hz:nz l f r k = 0:=by unfold nz;rw [if_neg (by rw [← hb];exact hcd)]
          apply tr_next (k + 1) (show k + 1 ≤ 32 by omega) (show 32 - (k + 1) < 32 - k by omega)
          case hs1=>
            rw [hst,hz,Nat.add_zero]
            exact .cons rfl (.cons rfl (.cons rfl (.cons rfl (.cons rfl (.cons rfl (.cons rfl (.cons rfl (.cons rfl (.cons rfl (.cons rfl (.cons rfl (.cons rfl (.cons rfl .nil)))))))))))))
          case ht=>exact .cons .here (.cons .here (.cons .here .nil))
      obtain rfl:k = 32:=by omega
      (refine s_r ?_;refine tr_val (rk_lss (.of rfl) (.of rfl)) rfl ?_;refine n_t ?_;refine tr_seq ?_;refine c_d rfl (fun _=>by omega) (fun hcd=>?_);refine x_t ?_;refine tr_then_exit ?_;refine tr_blk_exit ?_;refine tr_blk_normal ?_;refine tr_then ?_;refine tr_region ?_;refine tr_val (rk_add (.of rfl) (.of rfl) (ini (by omega))) rfl ?_;refine m_v rfl rfl ?_;refine n_t ?_)
      apply tr_next (r + 1) (show r + 1 ≤ 8 by omega) (show 8 - (r + 1) < 8 - r by omega)
      case hs1=>
        rw [show sumN (nzR l f) (r + 1) = A + sumN (nz l f r) 32 by rw [sumN,hAe];rfl]
        exact .cons rfl (.cons rfl (.cons rfl (.cons rfl (.cons rfl (.cons rfl (.cons rfl (.cons rfl (.cons rfl (.cons rfl (.cons rfl .nil))))))))))
      case ht=>exact .cons .here (.cons .here (.cons .here .nil))
    obtain rfl:r = 8:=by omega
    rw [show sumN (nzR l f) 8 = nbC l f l.length from by have:=nb_all hok f l.length (Nat.le_refl _);rwa [List.take_length,nbS_nz] at this]
    (refine s_r ?_;refine tr_val (rk_lss (.of rfl) (.of rfl)) rfl ?_;refine n_t ?_;refine tr_seq ?_;refine c_d rfl (fun _=>by omega) (fun hcd=>?_);refine x_t ?_;refine tr_then_exit ?_;refine tr_blk_exit ?_;refine tr_then ?_;refine s_r ?_;refine m_v rfl rfl ?_;refine tr_val (rk_eql (.of rfl) (.of rfl)) rfl ?_;refine a_s rfl rfl ?_;refine n_t ?_;refine tr_seq ?_;refine s_r ?_;refine m_v rfl rfl ?_;refine tr_val (rk_len_slice (.of rfl)) rfl ?_;refine m_v rfl rfl ?_;refine n_t ?_;refine tr_block ?_)
    have h256:∀ j,j ≤ l.length → nbC l f j ≤ 256:=fun j hj=>by
      have:=nb_all hok f j hj
      rw [← this,nbS_nz]
      exact sumN_le (nzR_le _ f) 8
    have hT6:=h256 l.length (Nat.le_refl _)
    generalize hTe:nbC l f l.length = T at hT6
    refine tr_for (ι:=Nat) (fun j=>j ≤ l.length) (fun j=>[(210,.int .i64 (j:Nat)),(209,.int .i64 (l.length:Nat)),(208,.slice a l.length cp),(26,.int .i64 ((T:Nat) - (nbC l f j:Nat))),(30,.bool (tcB l f j)),(24,.pointer (some ⟨b24,0,none⟩)),(23,.int .i64 f),(173,.int .i64 (q:Nat)),(172,.int .i64 (F.length:Nat)),(171,.slice (some ⟨gf,0,none⟩) F.length cf),(17,cv),(0,.slice a l.length cp),(1,.int .u16 n)]) (fun j=>[blk b24 (.cells #[.string z0,.string z1,.string z2,.string z3,.string z4,.string z5,.string z6,.string z7] 99 (0,0)),blk gf (.cells (intgV F++curf).toArray 3 (0,0)),row 3 1 cv (chX l).length (intgV (chX l))]) (fun j=>l.length - j) ?_ ?_
    · apply tr_start 0 (show (0:Nat) ≤ l.length from Nat.zero_le _)
      case hs1=>
        rw [show tcB l f 0 = decide (f = 0) by unfold tcB;simp,show ((T:Nat):Int) - (nbC l f 0:Nat) = (T:Nat) from Int.sub_zero _]
        exact .cons rfl (.cons rfl (.cons rfl (.cons rfl (.cons rfl (.cons rfl (.cons rfl (.cons rfl (.cons rfl (.cons rfl (.cons rfl (.cons rfl (.cons rfl .nil))))))))))))
      case ht=>exact .cons .here (.cons .here (.cons .here .nil))
    intro j hj
    by_cases hjl:j < l.length
    · have ha':=ha (cps_ne hjl)
      have hcell:=(hc j _ (cps_get hjl)).2
      have hxo:=hok.ok j hjl
      have hj6:=h256 j (by omega)
      have hj7:=h256 (j + 1) (by omega)
      have htc:tcB l f (j + 1) = (tcB l f j || (decide ((nthC l j).fr = f) || decide ((nthC l j).to = f))):=by
        unfold tcB;rw [List.range_succ,List.any_append,Bool.or_assoc];simp
      have hnb:nbC l f (j + 1) = nbC l f j + if onA (nthC l j) f then nb (nthC l j).tx else 0:=rfl
      have hat:=fun k=>shB_at hok hjl (n:=f) (k:=k)
      rw [← nthC_get hjl] at hcell
      generalize htg:tcB l f (j + 1) = tc1 at htc
      generalize tcB l f j = tc0 at htc ⊢
      generalize hng:nbC l f (j + 1) = n1 at hnb hj7
      generalize nbC l f j = n0 at hnb hj6 ⊢
      generalize nthC l j = x at hcell hxo htc hnb hat
      have hx1:=hxo.sp
      have hx2:=hxo.rw
      have hx3:=hxo.co
      dsimp only [Cp.cells] at hcell
      apply cut_kS (A:=∀ b32:Nat,w.heap.size ≤ b32 → x.fr ≤ f → f < x.to → Tr _ [] [(32,.pointer (some ⟨b32,0,none⟩)),(210,.int .i64 (j:Nat)),(209,.int .i64 (l.length:Nat)),(208,.slice a l.length cp),(26,.int .i64 ((T:Nat) - (n0:Nat))),(30,.bool tc1),(24,.pointer (some ⟨b24,0,none⟩)),(23,.int .i64 f),(173,.int .i64 (q:Nat)),(172,.int .i64 (F.length:Nat)),(171,.slice (some ⟨gf,0,none⟩) F.length cf),(17,cv),(0,.slice a l.length cp),(1,.int .u16 n)] [blk b32 (.cells #[.int .i64 x.fr,.int .i64 x.to,.int .i64 x.rw,.int .i64 x.co,.string x.tx] 117 (0,0)),blk b24 (.cells #[.string z0,.string z1,.string z2,.string z3,.string z4,.string z5,.string z6,.string z7] 99 (0,0)),blk gf (.cells (intgV F++curf).toArray 3 (0,0)),row 3 1 cv (chX l).length (intgV (chX l))] _)
      · intro key
        (refine s_r ?_;refine tr_val (rk_lss (.of rfl) (.of rfl)) rfl ?_;refine n_t ?_;refine tr_seq ?_;refine c_d rfl (fun hcd=>?_) (fun _=>by omega);refine s_t ?_;refine tr_seq ?_;refine tr_block ?_;refine s_r ?_;refine tr_val (rk_indexAddr (.of rfl) (.of rfl) ha' (by omega) hcd norm1_) rfl ?_;refine tr_val (rk_loadN (.of rfl) (Ats.base hcell rfl) rfl) rfl ?_;refine tr_new (rk_alloc rfl) rfl (fun _ _=>?_);refine tr_store (.of rfl) (.of rfl) .here rfl rfl (okc_cons rfl (okc_cons rfl (okc_cons rfl (okc_cons rfl (okc_cons rfl okc_nil))))) (lenb rfl) norm_ ?_;refine n_t ?_;refine tr_seq ?_;refine s_r ?_;refine f_a rfl rfl norm0_ ?_;refine f_a rfl rfl norm0_ ?_;refine tr_val (rk_load1 (.of rfl) (At.lit .here rfl)) rfl ?_;refine m_v rfl rfl ?_;refine tr_val (rk_eql (.of rfl) (.of rfl)) rfl ?_;refine m_v rfl rfl ?_;refine tr_vG1 rfl rfl inferInstance (fun hg hgp=>(rk_fieldAddr (.of rfl) norm0_)) rfl ?_;refine tr_vG1 rfl rfl inferInstance (fun hg hgp=>(rk_fieldAddr (.ofg hg rfl) norm0_)) rfl ?_;refine tr_vG1 rfl rfl inferInstance (fun hg hgp=>(rk_load1 (.ofg hg rfl) (At.lit .here rfl))) rfl ?_;refine v_g rfl rfl rfl rfl ?_;refine tr_vG1 rfl rfl inferInstance (fun hg hgp=>(rk_eql (.ofg hg rfl) (.ofg hg rfl))) rfl ?_;refine tr_val (rk_pick_or (.of rfl) rfl) rfl ?_;refine n_t ?_;refine c_b rfl (fun hcd=>?_) (fun hcd=>?_);refine tr_region ?_;refine a_s rfl rfl ?_;refine n_t ?_;refine tr_seq ?_;refine s_r ?_;refine f_a rfl rfl norm0_ ?_;refine f_a rfl rfl norm0_ ?_;refine tr_val (rk_load1 (.of rfl) (At.lit .here rfl)) rfl ?_;refine m_v rfl rfl ?_;refine tr_val (rk_gtr (.of rfl) (.of rfl)) rfl ?_;refine m_v rfl rfl ?_;refine tr_vG1 rfl rfl inferInstance (fun hg hgp=>(rk_fieldAddr (.of rfl) norm0_)) rfl ?_;refine tr_vG1 rfl rfl inferInstance (fun hg hgp=>(rk_fieldAddr (.ofg hg rfl) norm0_)) rfl ?_;refine tr_vG1 rfl rfl inferInstance (fun hg hgp=>(rk_load1 (.ofg hg rfl) (At.lit .here rfl))) rfl ?_;refine v_g rfl rfl rfl rfl ?_;refine tr_vG1 rfl rfl inferInstance (fun hg hgp=>(rk_leq (.ofg hg rfl) (.ofg hg rfl))) rfl ?_;refine tr_val (rk_pick_or (.of rfl) rfl) rfl ?_;refine n_t ?_;refine c_b rfl (fun hcd=>?_) (fun hcd=>?_);refine x_t ?_;refine tr_blk_exit ?_;refine tr_then ?_;refine tr_region ?_;refine tr_val (rk_add (.of rfl) (.of rfl) (ini (by omega))) rfl ?_;refine m_v rfl rfl ?_;refine n_t ?_;rotate_left;refine s_t ?_;refine tr_seq ?_;refine tr_seq ?_;rotate_right;rotate_left 2;refine s_t ?_;refine tr_seq ?_;refine s_r ?_;refine f_a rfl rfl norm0_ ?_;refine f_a rfl rfl norm0_ ?_;refine tr_val (rk_load1 (.of rfl) (At.lit .here rfl)) rfl ?_;refine m_v rfl rfl ?_;refine tr_val (rk_gtr (.of rfl) (.of rfl)) rfl ?_;refine m_v rfl rfl ?_;refine tr_vG1 rfl rfl inferInstance (fun hg hgp=>(rk_fieldAddr (.of rfl) norm0_)) rfl ?_;refine tr_vG1 rfl rfl inferInstance (fun hg hgp=>(rk_fieldAddr (.ofg hg rfl) norm0_)) rfl ?_;refine tr_vG1 rfl rfl inferInstance (fun hg hgp=>(rk_load1 (.ofg hg rfl) (At.lit .here rfl))) rfl ?_;refine v_g rfl rfl rfl rfl ?_;refine tr_vG1 rfl rfl inferInstance (fun hg hgp=>(rk_leq (.ofg hg rfl) (.ofg hg rfl))) rfl ?_;refine tr_val (rk_pick_or (.of rfl) rfl) rfl ?_;refine n_t ?_;refine c_b rfl (fun hcd=>?_) (fun hcd=>?_);refine x_t ?_;refine tr_blk_exit ?_;refine tr_then ?_;refine tr_region ?_;refine tr_val (rk_add (.of rfl) (.of rfl) (ini (by omega))) rfl ?_;refine m_v rfl rfl ?_;refine n_t ?_;rotate_left;refine s_t ?_;refine tr_seq ?_;refine tr_seq ?_;rotate_right;rotate_right 2)
        · rename_i b32 hb32 hto
          have ht:tc1 = true:=by
            rw [htc]
            rcases hto with h | h
            · rw [decide_eq_true h,Bool.true_or,Bool.or_true]
            · rw [decide_eq_true h,Bool.or_true,Bool.or_true]
          have hn:n1 = n0:=by
            rw [hnb,if_neg]
            · rfl
            · unfold onA;simp only [Bool.and_eq_true,decide_eq_true_eq];omega
          apply tr_next (j + 1) (show j + 1 ≤ l.length from hjl) (show l.length - (j + 1) < l.length - j by omega)
          case hs1=>
            rw [htg,hng,hn,ht]
            exact .cons rfl (.cons rfl (.cons rfl (.cons rfl (.cons rfl (.cons rfl (.cons rfl (.cons rfl (.cons rfl (.cons rfl (.cons rfl (.cons rfl (.cons rfl .nil))))))))))))
          case ht=>exact .cons (.there .here) (.cons (.there .here) (.cons (.there .here) .nil))
        · rename_i b32 hb32 hto
          have ht:tc1 = true:=by
            rw [htc]
            rcases hto with h | h
            · rw [decide_eq_true h,Bool.true_or,Bool.or_true]
            · rw [decide_eq_true h,Bool.or_true,Bool.or_true]
          rw [ht] at key
          exact tr_cutW _ _ (by exact .cons rfl (.cons rfl (.cons rfl (.cons rfl (.cons rfl (.cons rfl (.cons rfl (.cons rfl (.cons rfl (.cons rfl (.cons rfl (.cons rfl (.cons rfl (.cons rfl .nil)))))))))))))) (by exact .cons .here (.cons .here (.cons .here (.cons .here .nil)))) (key b32 hb32 (by omega) (by omega))
        · rename_i b32 hb32 hto
          have ht:tc1 = tc0:=by
            rw [htc,decide_eq_false hto.1,decide_eq_false hto.2,Bool.or_false,Bool.or_false]
          have hn:n1 = n0:=by
            rw [hnb,if_neg]
            · rfl
            · unfold onA;simp only [Bool.and_eq_true,decide_eq_true_eq];omega
          apply tr_next (j + 1) (show j + 1 ≤ l.length from hjl) (show l.length - (j + 1) < l.length - j by omega)
          case hs1=>
            rw [htg,hng,hn,ht]
            exact .cons rfl (.cons rfl (.cons rfl (.cons rfl (.cons rfl (.cons rfl (.cons rfl (.cons rfl (.cons rfl (.cons rfl (.cons rfl (.cons rfl (.cons rfl .nil))))))))))))
          case ht=>exact .cons (.there .here) (.cons (.there .here) (.cons (.there .here) .nil))
        · rename_i b32 hb32 hto
          have ht:tc1 = tc0:=by
            rw [htc,decide_eq_false hto.1,decide_eq_false hto.2,Bool.or_false,Bool.or_false]
          rw [ht] at key
          exact tr_cutW _ _ (by exact .cons rfl (.cons rfl (.cons rfl (.cons rfl (.cons rfl (.cons rfl (.cons rfl (.cons rfl (.cons rfl (.cons rfl (.cons rfl (.cons rfl (.cons rfl (.cons rfl .nil)))))))))))))) (by exact .cons .here (.cons .here (.cons .here (.cons .here .nil)))) (key b32 hb32 (by omega) (by omega))
      intro b32 hb32 hon1 hon2
      have hpc:=scr_piece hxo hon1 hon2 hat
      have hx4:=hxo.fit
      obtain ⟨S,hS⟩:∃ S,strB (rowB l f x.rw) = S:=⟨_,rfl⟩
      have hS32:S.size = 32:=by rw [← hS,strB_size,rowB_len]
      rw [hS] at hpc
      have hz8:([.string z0,.string z1,.string z2,.string z3,.string z4,.string z5,.string z6,.string z7]:List Value)[x.rw.toNat * 1]? = some (.string S):=by
        obtain ⟨r,hre⟩:∃ r:Nat,x.rw = (r:Nat):=⟨x.rw.toNat,by omega⟩
        rw [← hS,hre,← scr_row (show r < 8 by omega),hZ]
        have:r = 0 ∨ r = 1 ∨ r = 2 ∨ r = 3 ∨ r = 4 ∨ r = 5 ∨ r = 6 ∨ r = 7:=by omega
        rcases this with rfl | rfl | rfl | rfl | rfl | rfl | rfl | rfl <;> rfl
      have hxt:x.tx.size ≤ 32:=by omega
      with_reducible refine tr_draw 16 (by kernel_rfl) ?_
      (refine a_f rfl rfl norm0_ ?_;refine any_val (rk_load1 (.of rfl) (At.lit .here rfl)) rfl ?_;refine any_val (rk_indexAddrA (.of rfl) (.of rfl) (by omega) (by omega) norm1_) rfl ?_;refine any_val (rk_load1 (.of rfl) (At.blkL (.there .here) hz8)) rfl ?_;refine a_f rfl rfl norm0_ ?_;refine any_val (rk_load1 (.of rfl) (At.lit .here rfl)) rfl ?_;refine a_f rfl rfl norm0_ ?_;refine any_val (rk_load1 (.of rfl) (At.lit .here rfl)) rfl ?_;refine a_f rfl rfl norm0_ ?_;refine any_val (rk_load1 (.of rfl) (At.lit .here rfl)) rfl ?_;refine any_val (rk_len_string (.of rfl)) rfl ?_;refine any_val (rk_add (.of rfl) (.of rfl) (ini (by omega))) rfl ?_;refine any_val (rk_sliceS_lh (.of rfl) (.of rfl) (.of rfl) (by omega) (by omega) (by omega)) rfl ?_;refine a_f rfl rfl norm0_ ?_;refine any_val (rk_load1 (.of rfl) (At.lit .here rfl)) rfl ?_;refine any_val (rk_neqs (.of rfl) (.of rfl)) rfl ?_)
      with_reducible refine any_end ?_
      rw [hpc,show decide (x.tx ≠ x.tx) = false from decide_eq_false (fun h=>h rfl)]
      (refine n_t ?_;refine tr_cond_f (.of rfl) ?_;refine s_t ?_;refine s_r ?_;refine f_a rfl rfl norm0_ ?_;refine tr_val (rk_load1 (.of rfl) (At.lit .here rfl)) rfl ?_;refine tr_val (rk_len_string (.of rfl)) rfl ?_;refine m_v rfl rfl ?_;refine n_t ?_;refine tr_block ?_)
      have hnx:n1 = n0 + nb x.tx:=by rw [hnb,if_pos (by unfold onA;rw [decide_eq_true hon1,decide_eq_true hon2];rfl)]
      refine tr_for (ι:=Nat) (fun i=>i ≤ x.tx.size) (fun i=>[(257,.int .i64 (i:Nat)),(256,.int .i64 (x.tx.size:Nat)),(26,.int .i64 ((T:Nat) - (n0:Nat) - (sumN (fun i=>if bt x.tx i ≠ 32 then 1 else 0) i:Nat))),(32,.pointer (some ⟨b32,0,none⟩)),(210,.int .i64 (j:Nat)),(209,.int .i64 (l.length:Nat)),(208,.slice a l.length cp),(30,.bool tc1),(24,.pointer (some ⟨b24,0,none⟩)),(23,.int .i64 f),(173,.int .i64 (q:Nat)),(172,.int .i64 (F.length:Nat)),(171,.slice (some ⟨gf,0,none⟩) F.length cf),(17,cv),(0,.slice a l.length cp),(1,.int .u16 n)]) (fun i=>[blk b32 (.cells #[.int .i64 x.fr,.int .i64 x.to,.int .i64 x.rw,.int .i64 x.co,.string x.tx] 117 (0,0)),blk b24 (.cells #[.string z0,.string z1,.string z2,.string z3,.string z4,.string z5,.string z6,.string z7] 99 (0,0)),blk gf (.cells (intgV F++curf).toArray 3 (0,0)),row 3 1 cv (chX l).length (intgV (chX l))]) (fun i=>x.tx.size - i) ?_ ?_
      · apply tr_start 0 (show (0:Nat) ≤ x.tx.size from Nat.zero_le _)
        case hs1=>
          rw [show ((T:Nat):Int) - (n0:Nat) - ((sumN (fun i=>if bt x.tx i ≠ 32 then 1 else 0) 0:Nat):Int) = (T:Nat) - (n0:Nat) from Int.sub_zero _]
          exact .cons rfl (.cons rfl (.cons rfl (.cons rfl (.cons rfl (.cons rfl (.cons rfl (.cons rfl (.cons rfl (.cons rfl (.cons rfl (.cons rfl (.cons rfl (.cons rfl (.cons rfl (.cons rfl .nil)))))))))))))))
        case ht=>exact .cons .here (.cons .here (.cons .here (.cons .here .nil)))
      intro i hi
      by_cases hil:i < x.tx.size
      · have hst:sumN (fun i=>if bt x.tx i ≠ 32 then 1 else 0) (i + 1) = sumN (fun i=>if bt x.tx i ≠ 32 then 1 else 0) i + if bt x.tx i ≠ 32 then 1 else 0:=rfl
        have hB:=sumN_le (f:=fun i=>if bt x.tx i ≠ 32 then 1 else 0) (M:=1) (fun k=>by split <;> omega) i
        generalize sumN (fun i=>if bt x.tx i ≠ 32 then 1 else 0) i = B at hst hB
        have hsz1:=hxt
        (refine s_r ?_;refine tr_val (rk_lss (.of rfl) (.of rfl)) rfl ?_;refine n_t ?_;refine tr_seq ?_;refine c_d rfl (fun hcd=>?_) (fun _=>by omega);refine s_t ?_;refine tr_seq ?_;refine tr_block ?_;refine s_r ?_;refine m_v rfl rfl ?_;refine a_s rfl rfl ?_;refine n_r ?_;refine f_a rfl rfl norm0_ ?_;refine tr_val (rk_load1 (.of rfl) (At.lit .here rfl)) rfl ?_;refine m_v rfl rfl ?_;refine tr_val (rk_indexS (.of rfl) (.of rfl) (by omega) hcd) rfl ?_;refine tr_val (rk_neq (.of rfl) (.of rfl)) rfl ?_;refine n_t ?_;refine c_d rfl (fun hcd=>?_) (fun hcd=>?_);refine tr_region ?_;refine m_v rfl rfl ?_;refine tr_val (rk_sub (.of rfl) (.of rfl) (ini (by omega))) rfl ?_;refine a_s rfl rfl ?_;refine tr_nil ?_;refine tr_blk_normal ?_;refine tr_then ?_;refine tr_region ?_;refine tr_val (rk_add (.of rfl) (.of rfl) (ini (by omega))) rfl ?_;refine m_v rfl rfl ?_;refine n_t ?_;rotate_left;refine tr_skip ?_;refine tr_blk_normal ?_;refine tr_then ?_;refine tr_region ?_;refine tr_val (rk_add (.of rfl) (.of rfl) (ini (by omega))) rfl ?_;refine m_v rfl rfl ?_;refine n_t ?_;rotate_right)
        · apply tr_next (i + 1) (show i + 1 ≤ x.tx.size from hil) (show x.tx.size - (i + 1) < x.tx.size - i by omega)
          case hs1=>
            rw [hst,if_pos (show bt x.tx i ≠ 32 from hcd),show ((T:Nat):Int) - (n0:Nat) - ((B + 1:Nat):Int) = (T:Nat) - (n0:Nat) - (B:Nat) - 1 by omega]
            exact .cons rfl (.cons rfl (.cons rfl (.cons rfl (.cons rfl (.cons rfl (.cons rfl (.cons rfl (.cons rfl (.cons rfl (.cons rfl (.cons rfl (.cons rfl (.cons rfl (.cons rfl (.cons rfl .nil)))))))))))))))
          case ht=>exact .cons .here (.cons .here (.cons .here (.cons .here .nil)))
        · apply tr_next (i + 1) (show i + 1 ≤ x.tx.size from hil) (show x.tx.size - (i + 1) < x.tx.size - i by omega)
          case hs1=>
            rw [hst,if_neg (show ¬bt x.tx i ≠ 32 from hcd),Nat.add_zero]
            exact .cons rfl (.cons rfl (.cons rfl (.cons rfl (.cons rfl (.cons rfl (.cons rfl (.cons rfl (.cons rfl (.cons rfl (.cons rfl (.cons rfl (.cons rfl (.cons rfl (.cons rfl (.cons rfl .nil)))))))))))))))
          case ht=>exact .cons .here (.cons .here (.cons .here (.cons .here .nil)))
      obtain rfl:i = x.tx.size:=by omega
      (refine s_r ?_;refine tr_val (rk_lss (.of rfl) (.of rfl)) rfl ?_;refine n_t ?_;refine tr_seq ?_;refine c_d rfl (fun _=>by omega) (fun hcd=>?_);refine x_t ?_;refine tr_then_exit ?_;refine tr_blk_exit ?_;refine tr_blk_normal ?_;refine tr_then ?_;refine tr_region ?_;refine tr_val (rk_add (.of rfl) (.of rfl) (ini (by omega))) rfl ?_;refine m_v rfl rfl ?_;refine n_t ?_)
      apply tr_next (j + 1) (show j + 1 ≤ l.length from hjl) (show l.length - (j + 1) < l.length - j by omega)
      case hs1=>
        rw [htg,hng,hnx,show ((T:Nat):Int) - ((n0 + nb x.tx:Nat):Int) = (T:Nat) - (n0:Nat) - (nb x.tx:Nat) by omega]
        exact .cons rfl (.cons rfl (.cons rfl (.cons rfl (.cons rfl (.cons rfl (.cons rfl (.cons rfl (.cons rfl (.cons rfl (.cons rfl (.cons rfl (.cons rfl .nil))))))))))))
      case ht=>exact .cons (.there .here) (.cons (.there .here) (.cons (.there .here) .nil))
    obtain rfl:j = l.length:=by omega
    rw [hTe,Int.sub_self]
    (refine s_r ?_;refine tr_val (rk_lss (.of rfl) (.of rfl)) rfl ?_;refine n_t ?_;refine tr_seq ?_;refine c_d rfl (fun _=>by omega) (fun hcd=>?_);refine x_t ?_;refine tr_then_exit ?_;refine tr_blk_exit ?_;refine tr_then ?_;refine s_r ?_)
    have htl:chB l f = true → tcB l f l.length = true:=fun hc=>by
      have he:=ch_end hc
      unfold endB at he
      rw [List.any_eq_true] at he
      obtain ⟨y,hy,he⟩:=he
      obtain ⟨i,hi,rfl⟩:=List.getElem_of_mem hy
      unfold tcB
      rw [Bool.or_eq_true,List.any_eq_true]
      exact .inr ⟨i,List.mem_range.2 hi,by rw [nthC_get hi];exact he⟩
    obtain ⟨y0,y1,y2,y3,y4,y5,y6,y7,hY⟩:∃ y0 y1 y2 y3 y4 y5 y6 y7:ByteArray,scrL [] 0 = [y0,y1,y2,y3,y4,y5,y6,y7]:=⟨_,_,_,_,_,_,_,_,rfl⟩
    obtain ⟨p0,p1,p2,p3,p4,p5,p6,p7,hP⟩:∃ p0 p1 p2 p3 p4 p5 p6 p7:ByteArray,scrL l (f - 1) = [p0,p1,p2,p3,p4,p5,p6,p7]:=⟨_,_,_,_,_,_,_,_,rfl⟩
    have hbq:∀ w',GivesV Tryz.prog 69 [] w' (.agg ((scrL [] 0).map Value.string).toArray):=fun w'=>blankQ_c w'
    rw [hY] at hbq
    dsimp only [List.map] at hbq
    with_reducible apply tr_callV
    case hr=>exact rk_call (.of rfl) .nil inferInstance normc_
    case hd=>rfl
    case hc=>exact fun w' hm'=>hbq w'
    apply cut_kS (A:=∀ b34:Nat,w.heap.size ≤ b34 → Tr _ [] [(34,.pointer (some ⟨b34,0,none⟩)),(26,.int .i64 0),(30,.bool (tcB l f l.length)),(24,.pointer (some ⟨b24,0,none⟩)),(23,.int .i64 f),(173,.int .i64 (q:Nat)),(172,.int .i64 (F.length:Nat)),(171,.slice (some ⟨gf,0,none⟩) F.length cf),(17,cv),(0,.slice a l.length cp),(1,.int .u16 n)] [blk b34 (.cells #[.string p0,.string p1,.string p2,.string p3,.string p4,.string p5,.string p6,.string p7] 99 (0,0)),blk b24 (.cells #[.string z0,.string z1,.string z2,.string z3,.string z4,.string z5,.string z6,.string z7] 99 (0,0)),blk gf (.cells (intgV F++curf).toArray 3 (0,0)),row 3 1 cv (chX l).length (intgV (chX l))] _)
    · intro key
      (refine tr_new (rk_alloc rfl) rfl (fun _ _=>?_);refine tr_store (.of rfl) (.of rfl) .here rfl rfl (okc_cons rfl (okc_cons rfl (okc_cons rfl (okc_cons rfl (okc_cons rfl (okc_cons rfl (okc_cons rfl (okc_cons rfl okc_nil)))))))) (lenb rfl) norm_ ?_;refine n_t ?_;refine tr_seq ?_;refine s_r ?_;refine m_v rfl rfl ?_;refine tr_val (rk_gtr (.of rfl) (.of rfl)) rfl ?_;refine n_t ?_;refine c_d rfl (fun hcd=>?_) (fun hcd=>?_);refine s_r ?_;refine m_v rfl rfl ?_;rotate_left;refine s_t ?_;refine tr_seq ?_;rotate_right)
      · rename_i b34 hb34
        have hnE1:shnE l (f - 1) = 0:=shnE_zero.2 ⟨hok,by omega,by omega⟩
        with_reducible apply tr_call
        case hr=>exact rk_call (.of rfl) (.cons (.of rfl) .nil) inferInstance normc_
        case hd=>rfl
        case ht=>exact Takes.nil
        case hc=>
          intro w1 fp hm1 _ hs1
          obtain rfl:fp = []:=hs1
          exact capsV_c (h.keeps hm1.keeps) (by omega)
        intro u5 _
        dsimp only [id_eq,List.cons_append,List.nil_append]
        (refine m_v rfl rfl ?_;refine tr_val (rk_sub (.of rfl) (.of rfl) (ini (by omega))) rfl ?_)
        with_reducible apply tr_callV
        case hr=>exact rk_call (.of rfl) (.cons (.of rfl) (.cons (.of rfl) .nil)) inferInstance normc_
        case hd=>rfl
        case hc=>
          intro w' hm'
          exact shownX_c (cps_rd (E:=195) (v:=u5) hm' (by exact .here) rfl) hsz
        rw [hnE1,show shnX l (f - 1) = scrL l (f - 1) by unfold shnX;rw [if_pos hnE1],hP]
        dsimp only [List.map]
        (refine m_v rfl rfl ?_;refine tr_val (rk_extract (.of rfl) rfl) rfl ?_;refine tr_val (rk_extract (.of rfl) rfl) rfl ?_;refine tr_new (rk_alloc rfl) rfl (fun _ _=>?_);refine tr_store (.of rfl) (.of rfl) .here rfl rfl (okc_cons rfl (okc_cons rfl (okc_cons rfl (okc_cons rfl (okc_cons rfl (okc_cons rfl (okc_cons rfl (okc_cons rfl okc_nil)))))))) (lenb rfl) norm_ ?_;refine a_s rfl rfl ?_;refine n_t ?_;refine tr_seq ?_;refine s_r ?_;refine m_v rfl rfl ?_;refine tr_val (rk_neqiS (.of rfl) (.of rfl) rfl) rfl ?_;refine n_t ?_;refine tr_cond_f (.of rfl) ?_;refine s_t ?_;refine tr_region ?_;refine tr_val (rk_loadB (.of rfl) .here norm_ (by rfl)) rfl ?_;refine tr_store (.of rfl) (.of rfl) (.there (.there .here)) rfl rfl (okc_cons rfl (okc_cons rfl (okc_cons rfl (okc_cons rfl (okc_cons rfl (okc_cons rfl (okc_cons rfl (okc_cons rfl okc_nil)))))))) (lenb rfl) norm_ ?_;refine n_t ?_;refine tr_seq ?_)
        exact tr_cutW _ _ (by exact .cons rfl (.cons rfl (.cons rfl (.cons rfl (.cons rfl (.cons rfl (.cons rfl (.cons rfl (.cons rfl (.cons rfl (.cons rfl .nil))))))))))) (by exact .cons .here (.cons (.there (.there .here)) (.cons (.there (.there .here)) (.cons (.there (.there .here)) .nil)))) (key b34 hb34)
      · rename_i b34 hb34
        have e1:f - 1 = -1:=by omega
        rw [e1,scr_before hok,hY] at hP
        simp only [List.cons.injEq,and_true] at hP
        obtain ⟨rfl,rfl,rfl,rfl,rfl,rfl,rfl,rfl⟩:=hP
        exact tr_cutW _ _ (by exact .cons rfl (.cons rfl (.cons rfl (.cons rfl (.cons rfl (.cons rfl (.cons rfl (.cons rfl (.cons rfl (.cons rfl (.cons rfl .nil))))))))))) (by exact .cons .here (.cons .here (.cons .here (.cons .here .nil)))) (key b34 hb34)
    intro b34 hb34
    have hI:∀ w',Rd w' cv 1 (intg (chX l)) → GivesV Tryz.prog 70 [cv,.int .i64 f] w' (.bool (chB l f)):=fun w' h=>by rw [← hcx f hf0];exact hasI_c f h
    have hA:eqL [.string z0,.string z1,.string z2,.string z3,.string z4,.string z5,.string z6,.string z7] [.string p0,.string p1,.string p2,.string p3,.string p4,.string p5,.string p6,.string p7] = some (!chB l f):=by
      unfold chB
      rw [hZ,hP]
      show some _ = some _
      congr 1
      rw [Bool.eq_iff_iff]
      simp
    generalize tcB l f l.length = tb at htl ⊢
    generalize chB l f = cb at hI hA htl
    cases cb
    · with_reducible refine tr_drawM 20 (by kernel_rfl) ?_
      (refine am_val (fun β=>(rk_move (.of rfl))) indC rfl ?_;refine am_val (fun β=>(rk_neqiS (.of rfl) (.of rfl) rfl)) indC rfl ?_;refine am_val (fun β=>(rk_move (.of rfl))) indC rfl ?_;refine am_gOn rfl (fun _=>rfl) ?_;refine am_val (fun β=>(rk_move (.of rfl))) indC rfl ?_;refine am_gOn rfl (fun _=>rfl) ?_;refine am_val (fun β=>(rk_move (.of rfl))) indC rfl ?_)
      dsimp only [Nat.zero_add,Nat.reduceAdd]
      refine am_gOn rfl (fun _=>rfl) ?_
      with_reducible apply am_callV (B:=[]) (F:=fun _=>.bool false) (args:=fun β=>[cv,.int .i64 f])
      case hB=>rfl
      case hr=>exact fun β=>rk_call (.of rfl) (.cons (.of rfl) (.cons (.of rfl) .nil)) inferInstance rfl
      case hi=>exact ind0
      case hd=>rfl
      case hc=>
        intro β w' hb
        have m2:=hb.mem
        exact hI _ (intg_rd (E:=3) (v:=cv) m2 (by exact Take.there (.there (.there .here))) rfl)
      dsimp only [Nat.zero_add,Nat.reduceAdd]
      refine am_gOn rfl (fun _=>rfl) ?_
      refine am_val (fun β=>(rk_loadB (.of rfl) (.there .here) norm_ (by rfl))) indC rfl ?_
      refine am_gOn rfl (fun _=>rfl) ?_
      refine am_val (fun β=>(rk_loadB (.of rfl) .here norm_ (by rfl))) indC rfl ?_
      refine am_gOn rfl (fun _=>rfl) ?_
      refine am_val (F:=fun _=>.bool false) (fun β=>rk_neqA (P:=Tryz.prog) (t:=99) (.of rfl) (.of rfl) (by exact okL_string (okL_string (okL_string (okL_string (okL_string (okL_string (okL_string (okL_string okL_nil)))))))) hA) indC rfl ?_
      refine am_gOn rfl (fun _=>rfl) ?_
      refine am_val (F:=fun _=>.bool (!(false == false))) (fun β=>rk_neqBo (a:=false) (b:=false) (.of rfl) (.of rfl)) indC rfl ?_
      (refine am_val (fun β=>(rk_pickB (.of rfl) (.of rfl) (.of rfl) rfl)) indC rfl ?_;refine am_val (fun β=>(rk_move (.of rfl))) indC rfl ?_;refine am_gOn rfl (fun _=>rfl) ?_;refine am_val (fun β=>(rk_move (.of rfl))) indC rfl ?_;refine am_gOn rfl (fun _=>rfl) ?_;refine am_val (fun β=>(rk_move (.of rfl))) indC rfl ?_)
      dsimp only [Nat.zero_add,Nat.reduceAdd]
      refine am_gOn rfl (fun _=>rfl) ?_
      with_reducible apply am_callV (B:=[]) (F:=fun _=>.bool false) (args:=fun β=>[cv,.int .i64 f])
      case hB=>rfl
      case hr=>exact fun β=>rk_call (.of rfl) (.cons (.of rfl) (.cons (.of rfl) .nil)) inferInstance rfl
      case hi=>exact ind0
      case hd=>rfl
      case hc=>
        intro β w' hb
        have m2:=hb.mem
        exact hI _ (intg_rd (E:=3) (v:=cv) m2 (by exact Take.there (.there (.there .here))) rfl)
      dsimp only [Nat.zero_add,Nat.reduceAdd]
      (refine am_gOn rfl (fun _=>rfl) ?_;refine am_val (fun β=>(rk_move (.of rfl))) indC rfl ?_;refine am_gOff rfl (fun _=>rfl) (Or.inr rfl) rfl ?_;refine am_gOff rfl (fun _=>rfl) (Or.inr rfl) rfl ?_;refine am_gOn rfl (fun _=>rfl) ?_;refine am_val (fun β=>(rk_pickB (.of rfl) (.of rfl) (.of rfl) rfl)) indC rfl ?_;refine am_val (fun β=>(rk_pickB (.of rfl) (.of rfl) (.of rfl) rfl)) indC rfl ?_)
      refine am_end fun β=>?_
      dsimp only [resAll,List.nil_append,List.cons_append,List.append_eq,Nat.reduceAdd]
      with_reducible refine left_done (by kernel_rfl) ?_
      (refine tr_then ?_;refine tr_cond_f (.of rfl) ?_;refine tr_skip ?_;refine tr_blk_normal ?_;refine tr_then ?_;refine tr_region ?_;refine tr_val (rk_add (.of rfl) (.of rfl) (ini (by omega))) rfl ?_;refine m_v rfl rfl ?_;refine n_t ?_)
      apply tr_next (q + 1) (show q + 1 ≤ F.length from hql) (show F.length - (q + 1) < F.length - q by omega)
      case hs1=>exact .cons rfl (.cons rfl (.cons rfl (.cons rfl (.cons rfl (.cons rfl .nil)))))
      case ht=>exact .cons (.there (.there .here)) (.cons (.there (.there .here)) .nil)
    · have htb:=htl rfl
      subst htb
      with_reducible refine tr_drawM 20 (by kernel_rfl) ?_
      (refine am_val (fun β=>(rk_move (.of rfl))) indC rfl ?_;refine am_val (fun β=>(rk_neqiS (.of rfl) (.of rfl) rfl)) indC rfl ?_;refine am_val (fun β=>(rk_move (.of rfl))) indC rfl ?_;refine am_gOn rfl (fun _=>rfl) ?_;refine am_val (fun β=>(rk_move (.of rfl))) indC rfl ?_;refine am_gOn rfl (fun _=>rfl) ?_;refine am_val (fun β=>(rk_move (.of rfl))) indC rfl ?_)
      dsimp only [Nat.zero_add,Nat.reduceAdd]
      refine am_gOn rfl (fun _=>rfl) ?_
      with_reducible apply am_callV (B:=[]) (F:=fun _=>.bool true) (args:=fun β=>[cv,.int .i64 f])
      case hB=>rfl
      case hr=>exact fun β=>rk_call (.of rfl) (.cons (.of rfl) (.cons (.of rfl) .nil)) inferInstance rfl
      case hi=>exact ind0
      case hd=>rfl
      case hc=>
        intro β w' hb
        have m2:=hb.mem
        exact hI _ (intg_rd (E:=3) (v:=cv) m2 (by exact Take.there (.there (.there .here))) rfl)
      dsimp only [Nat.zero_add,Nat.reduceAdd]
      refine am_gOn rfl (fun _=>rfl) ?_
      refine am_val (fun β=>(rk_loadB (.of rfl) (.there .here) norm_ (by rfl))) indC rfl ?_
      refine am_gOn rfl (fun _=>rfl) ?_
      refine am_val (fun β=>(rk_loadB (.of rfl) .here norm_ (by rfl))) indC rfl ?_
      refine am_gOn rfl (fun _=>rfl) ?_
      refine am_val (F:=fun _=>.bool true) (fun β=>rk_neqA (P:=Tryz.prog) (t:=99) (.of rfl) (.of rfl) (by exact okL_string (okL_string (okL_string (okL_string (okL_string (okL_string (okL_string (okL_string okL_nil)))))))) hA) indC rfl ?_
      refine am_gOn rfl (fun _=>rfl) ?_
      refine am_val (F:=fun _=>.bool (!(true == true))) (fun β=>rk_neqBo (a:=true) (b:=true) (.of rfl) (.of rfl)) indC rfl ?_
      (refine am_val (fun β=>(rk_pickB (.of rfl) (.of rfl) (.of rfl) rfl)) indC rfl ?_;refine am_val (fun β=>(rk_move (.of rfl))) indC rfl ?_;refine am_gOn rfl (fun _=>rfl) ?_;refine am_val (fun β=>(rk_move (.of rfl))) indC rfl ?_;refine am_gOn rfl (fun _=>rfl) ?_;refine am_val (fun β=>(rk_move (.of rfl))) indC rfl ?_)
      dsimp only [Nat.zero_add,Nat.reduceAdd]
      refine am_gOn rfl (fun _=>rfl) ?_
      with_reducible apply am_callV (B:=[]) (F:=fun _=>.bool true) (args:=fun β=>[cv,.int .i64 f])
      case hB=>rfl
      case hr=>exact fun β=>rk_call (.of rfl) (.cons (.of rfl) (.cons (.of rfl) .nil)) inferInstance rfl
      case hi=>exact ind0
      case hd=>rfl
      case hc=>
        intro β w' hb
        have m2:=hb.mem
        exact hI _ (intg_rd (E:=3) (v:=cv) m2 (by exact Take.there (.there (.there .here))) rfl)
      dsimp only [Nat.zero_add,Nat.reduceAdd]
      (refine am_gOn rfl (fun _=>rfl) ?_;refine am_val (fun β=>(rk_move (.of rfl))) indC rfl ?_;refine am_gOn rfl (fun _=>rfl) ?_;refine am_val (fun β=>(rk_move (.of rfl))) indC rfl ?_;refine am_gOn rfl (fun _=>rfl) ?_;refine am_val (fun β=>(rk_not (.of rfl))) indC rfl ?_;refine am_gOn rfl (fun _=>rfl) ?_;refine am_val (fun β=>(rk_pickB (.of rfl) (.of rfl) (.of rfl) rfl)) indC rfl ?_;refine am_val (fun β=>(rk_pickB (.of rfl) (.of rfl) (.of rfl) rfl)) indC rfl ?_)
      refine am_end fun β=>?_
      dsimp only [resAll,List.nil_append,List.cons_append,List.append_eq,Nat.reduceAdd]
      with_reducible refine left_done (by kernel_rfl) ?_
      (refine tr_then ?_;refine tr_cond_f (.of rfl) ?_;refine tr_skip ?_;refine tr_blk_normal ?_;refine tr_then ?_;refine tr_region ?_;refine tr_val (rk_add (.of rfl) (.of rfl) (ini (by omega))) rfl ?_;refine m_v rfl rfl ?_;refine n_t ?_)
      apply tr_next (q + 1) (show q + 1 ≤ F.length from hql) (show F.length - (q + 1) < F.length - q by omega)
      case hs1=>exact .cons rfl (.cons rfl (.cons rfl (.cons rfl (.cons rfl (.cons rfl .nil)))))
      case ht=>exact .cons (.there (.there .here)) (.cons (.there (.there .here)) .nil)
  obtain rfl:q = F.length:=by omega
  (refine s_r ?_;refine tr_val (rk_lss (.of rfl) (.of rfl)) rfl ?_;refine n_t ?_;refine tr_seq ?_;refine c_d rfl (fun _=>by omega) (fun hcd=>?_);refine x_t ?_;refine tr_then_exit ?_;refine tr_blk_exit ?_;refine tr_then ?_;refine s_r ?_;refine m_v rfl rfl ?_)
  with_reducible apply tr_call
  case hr=>exact rk_call (.of rfl) (.cons (.of rfl) .nil) inferInstance normc_
  case hd=>rfl
  case ht=>exact Takes.nil
  case hc=>
    intro w1 fp hm1 _ hs1
    obtain rfl:fp = []:=hs1
    exact capsV_c (h.keeps hm1.keeps) (by omega)
  intro u6 _
  dsimp only [id_eq,List.cons_append,List.nil_append]
  skip
  with_reducible apply tr_call
  case hr=>exact rk_call (.of rfl) (.cons (.of rfl) (.cons (.of rfl) (.cons (.of rfl) .nil))) inferInstance normc_
  case hd=>rfl
  case ht=>exact Takes.nil
  case hc=>
    intro w1 fp hm1 _ hs1
    obtain rfl:fp = []:=hs1
    exact safe_c (cps_rd (E:=195) (v:=u6) hm1 (by exact .here) rfl) hsz
  intro sv _
  dsimp only [id_eq,List.cons_append,List.nil_append]
  have hse1:safE l 1 4 = 0:=safE_zero.2 ⟨hok,by omega,by omega⟩
  rw [hse1,show safX l 1 4 = sfK l 1 4 l.length by unfold safX;rw [if_pos hse1]]
  (refine m_v rfl rfl ?_;refine tr_val (rk_extract (.of rfl) rfl) rfl ?_;refine tr_val (rk_extract (.of rfl) rfl) rfl ?_;refine a_s rfl rfl ?_;refine a_s rfl rfl ?_;refine n_t ?_;refine tr_seq ?_;refine s_r ?_;refine m_v rfl rfl ?_;refine tr_val (rk_neqiS (.of rfl) (.of rfl) rfl) rfl ?_;refine n_t ?_;refine tr_cond_f (.of rfl) ?_;refine s_t ?_;refine tr_seq ?_;refine s_r ?_;refine m_v rfl rfl ?_;refine tr_val (rk_len_slice (.of rfl)) rfl ?_;refine m_v rfl rfl ?_;refine n_t ?_;refine tr_block ?_)
  have hS:∀ (j:Nat) w',j < l.length → Rd w' sv 1 (intg ((sfK l 1 4 l.length).map fun (n:Nat)=>(n:Int))) → GivesV Tryz.prog 70 [sv,.int .i64 (j:Nat)] w' (.bool (sfB 1 4 (nthC l j))):=fun j w' hj h=>by
    have:((sfK l 1 4 l.length).map fun (n:Nat)=>(n:Int)).contains (j:Int) = sfB 1 4 (nthC l j):=by
      rw [Bool.eq_iff_iff,List.contains_iff_mem,List.mem_map]
      constructor
      · rintro ⟨m,hm,e⟩
        obtain rfl:m = j:=by omega
        exact (List.mem_filter.1 hm).2
      · intro hb
        exact ⟨j,List.mem_filter.2 ⟨List.mem_range.2 hj,hb⟩,rfl⟩
    rw [← this]
    exact hasI_c _ h
  rw [natsV_intg (sfK l 1 4 l.length),show (sfK l 1 4 l.length).length = ((sfK l 1 4 l.length).map fun (n:Nat)=>(n:Int)).length by rw [List.length_map]]
  generalize ((sfK l 1 4 l.length).map fun (n:Nat)=>(n:Int)) = SK at hS ⊢
  refine tr_for (ι:=Nat) (fun j=>j ≤ l.length) (fun j=>[(314,.int .i64 (j:Nat)),(313,.int .i64 (l.length:Nat)),(312,.slice a l.length cp),(37,sv)]) (fun _=>[row 3 1 sv SK.length (intgV SK)]) (fun j=>l.length - j) ?_ ?_
  · apply tr_start 0 (show (0:Nat) ≤ l.length from Nat.zero_le _)
    case hs1=>exact .cons rfl (.cons rfl (.cons rfl (.cons rfl .nil)))
    case ht=>exact .cons .here .nil
  intro j hj
  by_cases hjl:j < l.length
  · have ha':=ha (cps_ne hjl)
    have hcell:=(hc j _ (cps_get hjl)).2
    have hxo:=hok.ok j hjl
    have hSj:=fun w'=>hS j w' hjl
    rw [← nthC_get hjl] at hcell
    generalize nthC l j = x at hcell hxo hSj
    have hx2:=hxo.rw
    have hx3:=hxo.co
    have hx4:=hxo.fit
    dsimp only [Cp.cells] at hcell
    have hxt:x.tx.size ≤ 32:=by omega
    (refine s_r ?_;refine tr_val (rk_lss (.of rfl) (.of rfl)) rfl ?_;refine n_t ?_;refine tr_seq ?_;refine c_d rfl (fun hcd=>?_) (fun _=>by omega);refine s_t ?_;refine tr_seq ?_;refine tr_block ?_;refine s_r ?_;refine m_v rfl rfl ?_;refine tr_val (rk_indexAddr (.of rfl) (.of rfl) ha' (by omega) hcd norm1_) rfl ?_;refine tr_val (rk_loadN (.of rfl) (Ats.base hcell rfl) rfl) rfl ?_;refine tr_new (rk_alloc rfl) rfl (fun _ _=>?_);refine a_s rfl rfl ?_;refine tr_store (.of rfl) (.of rfl) .here rfl rfl (okc_cons rfl (okc_cons rfl (okc_cons rfl (okc_cons rfl (okc_cons rfl okc_nil))))) (lenb rfl) norm_ ?_;refine n_t ?_;refine tr_seq ?_)
    with_reducible refine tr_draw 26 (by kernel_rfl) ?_
    (refine a_m rfl rfl ?_;refine a_m rfl rfl ?_;refine any_call (rk_call (.of rfl) (.cons (.of rfl) (.cons (.of rfl) .nil)) inferInstance normc_) rfl (fun w' hm'=>(hSj w' (intg_rd hm' (.there .here) rfl))) ?_;refine a_f rfl rfl norm0_ ?_;refine any_val (rk_load1 (.of rfl) (At.lit .here rfl)) rfl ?_;refine any_val (rk_geq (.of rfl) (.of rfl)) rfl ?_;refine a_m rfl rfl ?_;refine any_vG1 rfl rfl inferInstance (fun hg hgp=>(rk_fieldAddr (.of rfl) norm0_)) rfl ?_;refine any_vG1 rfl rfl inferInstance (fun hg hgp=>(rk_load1 (.ofg hg rfl) (At.lit .here rfl))) rfl ?_;refine any_vG1 rfl rfl inferInstance (fun hg hgp=>(rk_leq (.ofg hg rfl) (.of rfl))) rfl ?_;refine any_val (rk_pick_and (.of rfl) rfl) rfl ?_;refine a_m rfl rfl ?_;refine any_vG1 rfl rfl inferInstance (fun hg hgp=>(rk_fieldAddr (.of rfl) norm0_)) rfl ?_;refine any_vG1 rfl rfl inferInstance (fun hg hgp=>(rk_load1 (.ofg hg rfl) (At.lit .here rfl))) rfl ?_;refine any_vG1 rfl rfl inferInstance (fun hg hgp=>(rk_geq (.ofg hg rfl) (.of rfl))) rfl ?_;refine any_val (rk_pick_and (.of rfl) rfl) rfl ?_;refine a_m rfl rfl ?_;refine any_vG1 rfl rfl inferInstance (fun hg hgp=>(rk_fieldAddr (.of rfl) norm0_)) rfl ?_;refine any_vG1 rfl rfl inferInstance (fun hg hgp=>(rk_load1 (.ofg hg rfl) (At.lit .here rfl))) rfl ?_;refine any_vG1 rfl rfl inferInstance (fun hg hgp=>(rk_fieldAddr (.of rfl) norm0_)) rfl ?_;refine any_vG1 rfl rfl inferInstance (fun hg hgp=>(rk_load1 (.ofg hg rfl) (At.lit .here rfl))) rfl ?_;refine any_vG1 rfl rfl inferInstance (fun hg hgp=>(rk_len_string (.ofg hg rfl))) rfl ?_;refine any_vG1 rfl rfl inferInstance (fun hg hgp=>(rk_add (.ofg hg rfl) (.ofg hg rfl) (ini (by omega)))) rfl ?_;refine any_vG1 rfl rfl inferInstance (fun hg hgp=>(rk_leq (.ofg hg rfl) (.of rfl))) rfl ?_;refine any_val (rk_pick_and (.of rfl) rfl) rfl ?_;refine any_val (rk_eqlBo (.of rfl) (.of rfl)) rfl ?_)
    with_reducible refine any_end ?_
    (refine n_t ?_;refine c_d rfl (fun hcd=>?_) (fun hcd=>?_);refine s_r ?_;refine a_s rfl rfl ?_;refine n_t ?_;refine tr_ret ?_;refine tr_blk_ret ?_;refine tr_then_ret ?_;refine tr_then_ret ?_;refine tr_blk_ret ?_;refine tr_then_ret ?_;refine tr_retE rfl (ends1 rfl rfl) ?_;rotate_left;refine tr_skip ?_;refine tr_blk_normal ?_;refine tr_then ?_;refine tr_region ?_;refine tr_val (rk_add (.of rfl) (.of rfl) (ini (by omega))) rfl ?_;refine m_v rfl rfl ?_;refine n_t ?_;rotate_right)
    · exfalso
      have hq4:sfB 1 4 x = !(decide (1 ≤ x.rw) && decide (x.rw ≤ 6) && decide (4 ≤ x.co) && decide (x.co + (x.tx.size:Int) ≤ 28)):=by
        unfold sfB
        rw [Bool.eq_iff_iff]
        simp only [Bool.or_eq_true,Bool.and_eq_true,decide_eq_true_eq,Bool.not_eq_true',Bool.and_eq_false_iff,decide_eq_false_iff_not]
        omega
      rw [hq4] at hcd
      revert hcd
      generalize (decide (1 ≤ x.rw) && decide (x.rw ≤ 6) && decide (4 ≤ x.co) && decide (x.co + (x.tx.size:Int) ≤ 28)) = bb
      cases bb <;> simp
    · apply tr_next (j + 1) (show j + 1 ≤ l.length from hjl) (show l.length - (j + 1) < l.length - j by omega)
      case hs1=>exact .cons rfl (.cons rfl (.cons rfl (.cons rfl .nil)))
      case ht=>exact .cons (.there .here) .nil
  obtain rfl:j = l.length:=by omega
  (refine s_r ?_;refine tr_val (rk_lss (.of rfl) (.of rfl)) rfl ?_;refine n_t ?_;refine tr_seq ?_;refine c_d rfl (fun _=>by omega) (fun hcd=>?_);refine x_t ?_;refine tr_then_exit ?_;refine tr_blk_exit ?_;refine tr_then ?_;refine s_r ?_;refine tr_callV (rk_call (.of rfl) .nil inferInstance normc_) rfl (fun w' hm'=>(awake_c w' (GlobR.keeps hG (Mem.keeps hm')) (Tab10.keeps hT (Mem.keeps hm')))) ?_;refine a_s rfl rfl ?_;refine n_t ?_;refine tr_ret ?_;refine tr_retE rfl (ends1 rfl rfl) ?_)
  rfl
end Go.Proofs.A1
