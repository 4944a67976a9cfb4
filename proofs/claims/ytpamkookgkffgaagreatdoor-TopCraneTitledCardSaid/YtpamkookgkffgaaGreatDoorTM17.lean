/- Parts of the proof: ES36 ES37. -/
import Derived.Test.YtpamkookgkffgaaGreatDoorTM16
import Derived.Test.YtpamkookgkffgaaGreatDoorTM09
import Derived.Test.YtpamkookgkffgaaGreatDoorTM06
set_option linter.unusedSectionVars false
set_option linter.unusedVariables false
set_option linter.unusedSimpArgs false
namespace Go.Proofs.A1
open Go Go.SL
theorem natsV_rows (o:List Nat):((natsV9 o).map fun u=>[u]) = natsL o:=by simp [natsV9,natsL]
theorem natsV_int (o:List Nat):(o.map fun (i:Nat)=>(i:Int)).map (Value.int .i64) = natsV9 o:=by simp [natsV9]
theorem natsV_length (o:List Nat):(natsV9 o).length = o.length:=by simp [natsV9]
theorem natsV_snoc (o:List Nat) (i:Nat):natsV9 (o++[i]) = natsV9 o++[.int .i64 (i:Int)]:=by simp [natsV9]
theorem contains_nat (o:List Nat) (i:Nat):(o.map fun (i:Nat)=>(i:Int)).contains (i:Int) = o.contains i:=by
  simp only [List.contains_eq_mem,List.mem_map,decide_eq_decide]
  exact ⟨fun ⟨a, h, e⟩ => by obtain rfl : a = i := by omega
                             exact h,fun h=>⟨i,h,rfl⟩⟩
theorem rdRowN {c:Cx} {hs hs':List Asn} {w:World} {E:TypeId} {v:Value} {o:List Nat} (hm:Mem c hs w) (ht:Take hs (row E 1 v o.length (natsV9 o)) hs'):Rd w v 1 (natsL o):=by
  rw [← natsV_rows];exact hm.rdRow1 ht (natsV_length o)
theorem rdPoolN {c:Cx} {hs hs':List Asn} {w:World} {E:TypeId} {vs:List Value} {xs:List (List Value)} {j:Nat} {v:Value} {o:List Nat} (hm:Mem c hs w) (ht:Take hs (pool E vs xs) hs') (hv:vs[j]? = some v) (hx:xs[j]? = some (natsV9 o)):Rd w v 1 (natsL o):=by
  rw [← natsV_rows];exact hm.rdPool ht hv hx
theorem containsN_c {v:Value} {o:List Nat} {i:Nat} {q:Bool} {w:World} (h:Rd w v 1 (natsL o)) (hq:o.contains i = q):GivesV Tryz.prog 76 [v,.int .i64 (i:Int)] w (.bool q):=by
  rw [natsL_ints] at h
  rw [← hq,← contains_nat]
  exact contains_c _ h
theorem cloneN_c {v:Value} {o:List Nat} {w:World} (h:Rd w v 1 (natsL o)) (hl:o.length ≤ 1000) :
    Gives Tryz.prog 77 [v] w [] (fun _:Value=>True) id (fun v=>[row 3 1 v o.length (natsV9 o)]):=by
  rw [natsL_ints] at h
  have:=clone_c h (by rw [List.length_map];exact hl)
  rwa [List.length_map,natsV_int] at this
structure ExEnv (w:World) (fp:List Nat) (b:Br) (l bb b3 be:Nat) (sv cv xv:Value):Prop where
  n:w.cell? ⟨bb,0,none⟩ = some (.int .i64 b.n)
  s:w.cell? ⟨bb,1,none⟩ = some sv
  c:w.cell? ⟨bb,2,none⟩ = some cv
  x:w.cell? ⟨bb,3,none⟩ = some xv
  y:w.cell? ⟨b3,0,none⟩ = some (.func (.yield l) #[] #[])
  e:w.cell? ⟨be,0,none⟩ = some (.func (.func 74) #[] #[.pointer (some ⟨bb,0,none⟩),.pointer (some ⟨b3,0,none⟩),.pointer (some ⟨be,0,none⟩)])
  nb:bb ∉ fp
  n3:b3 ∉ fp
  ne:be ∉ fp
  rs:Rd w sv 4 (spsL b.sp)
  rc:Rd w cv 1 (ints b.cm)
  rx:Rd w xv 2 (prsL b.ex)
  os:Out fp sv (spsL b.sp)
  oc:Out fp cv (ints b.cm)
  ox:Out fp xv (prsL b.ex)
theorem ExEnv.step {w w1:World} {fp fp1:List Nat} {b:Br} {l bb b3 be:Nat} {sv cv xv:Value} (h:ExEnv w fp b l bb b3 be sv cv xv) (hk:Keeps fp w w1) (hF:∀ x ∈ fp1,x ∈ fp ∨ w.heap.size ≤ x):ExEnv w1 fp1 b l bb b3 be sv cv xv:=by
  have hout:∀ {q:Nat} {v:Value},w.cell? ⟨q,0,none⟩ = some v → q ∉ fp → q ∉ fp1:=fun hc hn hq=>by
    have hb:=World.block_lt_of_cell? w _ hc
    rcases hF _ hq with h | h
    · exact hn h
    · exact absurd hb (by simp;omega)
  exact ⟨cell_keepsN h.n h.nb hk,cell_keepsN h.s h.nb hk,cell_keepsN h.c h.nb hk,cell_keepsN h.x h.nb hk,cell_keepsN h.y h.n3 hk,cell_keepsN h.e h.ne hk,
    hout h.n h.nb,hout h.y h.n3,hout h.e h.ne,h.rs.keepsN h.os hk,h.rc.keepsN h.oc hk,h.rx.keepsN h.ox hk,
    h.rs.out (by omega) h.os hF,h.rc.out (by omega) h.oc hF,h.rx.out (by omega) h.ox hF⟩
theorem subF_zero {b:Br} {f:Nat} {o:List Nat} (h:∀ i,i < b.sp.length → o.contains i = true):∀ n,n ≤ b.sp.length → subF b f o n = []
  | 0,_=>rfl
  | n + 1,hn=>by rw [subF_succ,subF_zero h n (by omega),h n (by omega)];rfl
theorem full_of {n:Nat} {o:List Nat} (h:Dif n o) (hl:n ≤ o.length) {i:Nat} (hi:i < n):o.contains i = true:=by
  cases hc:o.contains i with
  | true=>rfl
  | false =>
    have:=(h.snoc hi hc).len
    simp at this;omega
theorem fillsF_eq {b:Br} {f:Nat} {o:List Nat} (h:Dif b.sp.length o) (hl:b.sp.length ≤ o.length + f) (hz:fitE b o = 0):fillsF b f o = o :: subF b (f - 1) o b.sp.length:=by
  cases f with
  | zero=>rw [fillsF,if_neg (by rw [hz];decide),subF_zero (fun i hi=>full_of h (by omega) hi) _ (Nat.le_refl _)]
  | succ f=>rw [fillsF,if_neg (by rw [hz];decide)];rfl
theorem subF_split {b:Br} {f:Nat} {o:List Nat} {i:Nat}:∀ {n:Nat},i ≤ n → ∃ r,subF b f o n = subF b f o i++r
  | 0, h => ⟨[], by obtain rfl : i = 0 := by omega
                    simp⟩
  | n + 1, h => by
    by_cases e:i = n + 1
    · subst e;exact ⟨[],by simp⟩
    · obtain ⟨r,hr⟩:=subF_split (b:=b) (f:=f) (o:=o) (i:=i) (n:=n) (by omega)
      exact ⟨r++if o.contains n then [] else fillsF b f (o++[n]),by rw [subF_succ,hr,List.append_assoc]⟩
theorem drop_at {α:Type} {l:List α} {k:Nat} {x:α} {r:List α} (h:l.drop k = x :: r):k < l.length ∧ l[k]? = some x ∧ l.drop (k + 1) = r ∧ l.take (k + 1) = l.take k++[x]:=by
  have h1:k < l.length:=by
    rcases Nat.lt_or_ge k l.length with h1 | h1
    · exact h1
    · rw [List.drop_of_length_le h1] at h;cases h
  have h2:l[k]? = some x:=by
    have:=congrArg (fun q=>q[0]?) h
    simpa using this
  refine ⟨h1,h2,?_,?_⟩
  · rw [← List.drop_drop,h];rfl
  · rw [List.take_add_one,h2];rfl
theorem prefix_get {α:Type} {l m:List α} {x:α} (h:(l++[x]) <+: m):m[l.length]? = some x:=by
  obtain ⟨r,rfl⟩:=h
  simp
set_option maxHeartbeats 4000000 in
theorem ext_c {b:Br} (hok:BrOk b) {l bb b3 be:Nat} {sv cv xv:Value} {w0:World} {md:List Nat} {items:List (List Value)} {J:List Value → Asn} (hY:YP Tryz.prog l w0 md 3 items J) :
    ∀ (f : Nat) (o : List Nat) (tl : List (List Value)) (vs : List Value) (v : Value) (w : World) (fp : List Nat), Dif b.sp.length o → b.sp.length ≤ o.length + f → items.drop vs.length = (fillsF b f o).map natsV9 ++ tl → vs.length ≤ items.length → Keeps md w0 w → (∀ x ∈ fp, x ∈ md ∨ w0.heap.size ≤ x) → fp.Nodup → ExEnv w fp b l bb b3 be sv cv xv → Sats (hp w) [J vs, pool 3 vs (items.take vs.length), row 3 1 v o.length (natsV9 o)] fp →
      Gives Tryz.prog 74 [v,.pointer (some ⟨bb,0,none⟩),.pointer (some ⟨b3,0,none⟩),.pointer (some ⟨be,0,none⟩)] w fp (fun vs':List Value=>vs <+: vs' ∧ vs'.length = vs.length + (fillsF b f o).length) (fun _=>.bool true) (fun vs'=>[J vs',pool 3 vs' (items.take vs'.length)]):=by
  intro f
  induction f using Nat.strongRecOn with
  | _ f ih=>
  intro o tl vs v w fp hdif hfu hit hvl hB hF hn henv hs
  have hfew:=hok.few
  have hlen:=hdif.len
  have hlen8:o.length ≤ 1000:=by omega
  have hnb:=henv.nb
  have hn3:=henv.n3
  have hne:=henv.ne
  have hn:=hn
  obtain ⟨a,cap,bs,os',hsv,hcap,hmax,ha,hc⟩:=henv.rs
  rw [spsL_length] at hsv hcap
  unfold maxLen at hmax
  have hEs:=henv.s
  have hEy:=henv.y
  have hEe:=henv.e
  have hAgg:∀ (j:Nat) (u:Value),[Value.int .i64 b.n,sv,cv,xv][j]? = some u → w.cell? ⟨bb,0 + j,none⟩ = some u:=by
    intro j u hu
    match j,hu with
    | 0,hu=>simp only [List.getElem?_cons_zero,Option.some.injEq] at hu;subst hu;exact henv.n
    | 1,hu=>simp only [List.getElem?_cons_succ,List.getElem?_cons_zero,Option.some.injEq] at hu;subst hu;exact henv.s
    | 2,hu=>simp only [List.getElem?_cons_succ,List.getElem?_cons_zero,Option.some.injEq] at hu;subst hu;exact henv.c
    | 3,hu=>simp only [List.getElem?_cons_succ,List.getElem?_cons_zero,Option.some.injEq] at hu;subst hu;exact henv.x
    | j + 4,hu=>simp at hu
  refine givesM_of_tr Tryz.func74 rfl rfl hn hs ?_
  (refine s_r ?_;refine a_s rfl rfl ?_;refine n_t ?_;refine tr_seq ?_;refine s_r ?_;refine tr_val (rk_loadN (.of rfl) (Ats.baseN hAgg hnb) rfl) rfl ?_;refine m_v rfl rfl ?_;refine tr_callV (rk_call (.of rfl) (.cons (.of rfl) (.cons (.of rfl) .nil)) inferInstance normc_) rfl (fun w' hm'=>(fits_c (Rd.keepsN (ExEnv.rs henv) (ExEnv.os henv) (Mem.keeps hm')) (Rd.keepsN (ExEnv.rc henv) (ExEnv.oc henv) (Mem.keeps hm')) (Rd.keepsN (ExEnv.rx henv) (ExEnv.ox henv) (Mem.keeps hm')) (rdRowN hm' (.there (.there .here))) hok (Dif.lt hdif) hlen8)) ?_;refine tr_val (rk_neq (.of rfl) (.of rfl)) rfl ?_;refine n_t ?_;refine c_d rfl (fun hcd=>?_) (fun hcd=>?_);refine s_r ?_;refine a_s rfl rfl ?_;refine n_t ?_;refine r_t ?_;rotate_left;refine s_t ?_;refine tr_seq ?_;refine s_r ?_;refine tr_val (rk_load1 (.of rfl) (At.baseN hEy hn3)) rfl ?_;refine m_v rfl rfl ?_;rotate_right)
  · have hE:=fillsF_bad (f:=f) hcd
    first | with_reducible apply tr_retM | with_reducible apply tr_endM
    case he=>exact ends1 rfl rfl
    case hR=>
      intro w' hm'
      exact gives_end vs ⟨List.prefix_rfl,by rw [hE];rfl⟩ (show Takes _ [J vs,pool 3 vs (items.take vs.length)] _ by exact .cons .here (.cons .here .nil)) hm' rfl
  have hz:fitE b o = 0:=Decidable.not_not.1 hcd
  have hE:=fillsF_eq hdif hfu hz
  rw [hE] at hit ⊢
  rw [List.map_cons,List.cons_append] at hit
  obtain ⟨hlt,hget,hdrop,htake⟩:=drop_at hit
  refine tr_poolAdd (by exact Take.there .here) (by exact Take.there .here) (natsV_length o).symm (by rw [List.length_take];omega) ?_
  rw [← htake]
  with_reducible apply tr_yieldP hY hB hF hlt
  case hx=>exact Is.of rfl
  case ha=>exact .cons (.of rfl) .nil
  case hd=>rfl
  case ht=>exact .cons (.there .here) (.cons .here .nil)
  have hvl1:(vs++[v]).length = vs.length + 1:=by simp
  subst hsv
  (refine tr_val (rk_not (.of rfl)) rfl ?_;refine n_t ?_;refine tr_cond_f (.of rfl) ?_;refine s_t ?_;refine tr_seq ?_;refine s_r ?_;refine f_a rfl rfl norm0_ ?_;refine tr_val (rk_load1 (.of rfl) (At.baseN hEs hnb)) rfl ?_;refine tr_val (rk_len_slice (.of rfl)) rfl ?_;refine m_v rfl rfl ?_;refine n_t ?_;refine tr_block ?_)
  refine tr_for (ι:=Nat × List Value) (fun x=>x.1 ≤ b.sp.length ∧ (vs++[v]) <+: x.2 ∧ x.2.length = vs.length + 1 + (subF b (f - 1) o x.1).length)
    (fun x=>[(18,.int .i64 x.1),(17,.int .i64 b.sp.length),(0,v),(1,.pointer (some ⟨bb,0,none⟩)),(2,.pointer (some ⟨b3,0,none⟩)),(3,.pointer (some ⟨be,0,none⟩))])
    (fun x=>[J x.2,pool 3 x.2 (items.take x.2.length)]) (fun x=>b.sp.length - x.1) ?_ ?_
  · apply tr_start (0,vs++[v]) ⟨Nat.zero_le _,List.prefix_rfl,by rw [hvl1];rfl⟩
    case hs1=>exact .cons rfl (.cons rfl (.cons rfl (.cons rfl (.cons rfl (.cons rfl .nil)))))
    case ht=>
      show Takes _ [J (vs++[v]),pool 3 (vs++[v]) (items.take (vs++[v]).length)] _
      rw [hvl1]
      exact .cons .here (.cons .here .nil)
  rintro ⟨i,x⟩ ⟨hi,hpre,hxl⟩
  dsimp only at hi hpre hxl ⊢
  have hvj:=prefix_get hpre
  have hxj:(items.take x.length)[vs.length]? = some (natsV9 o):=by
    rw [List.getElem?_take,if_pos (by omega)];exact hget
  by_cases hil:i < b.sp.length
  · cases hcon:o.contains i with
    | true =>
      have hsub:subF b (f - 1) o (i + 1) = subF b (f - 1) o i:=by rw [subF_succ,hcon];simp
      (refine s_r ?_;refine tr_val (rk_lss (.of rfl) (.of rfl)) rfl ?_;refine n_t ?_;refine tr_seq ?_;refine c_d rfl (fun hcd=>?_) (fun _=>by omega);refine s_t ?_;refine tr_seq ?_;refine tr_block ?_;refine s_r ?_;refine m_v rfl rfl ?_;refine a_s rfl rfl ?_;refine n_t ?_;refine tr_seq ?_)
      with_reducible refine tr_draw 14 (by kernel_rfl) ?_
      (refine a_m rfl rfl ?_;refine a_m rfl rfl ?_;refine any_call (rk_call (.of rfl) (.cons (.of rfl) (.cons (.of rfl) .nil)) inferInstance normc_) rfl (fun w' hm'=>(containsN_c (rdPoolN hm' (.there .here) hvj hxj) hcon)) ?_;refine any_val (rk_not (.of rfl)) rfl ?_;refine a_m rfl rfl ?_;refine any_vG1 rfl rfl inferInstance (fun hg hgp=>(rk_load1 (.of rfl) (At.baseN hEe hne))) rfl ?_;refine any_vG1 rfl rfl inferInstance (fun hg hgp=>(rk_move (.of rfl))) rfl ?_;refine any_vOff1 rfl rfl rfl rfl ?_;refine any_vG1 rfl rfl inferInstance (fun hg hgp=>(rk_move (.of rfl))) rfl ?_;refine any_vOff1 rfl rfl rfl rfl ?_;refine any_vOff1 rfl rfl rfl rfl ?_;refine any_vOff1 rfl rfl rfl rfl ?_;refine any_vG1 rfl rfl inferInstance (fun hg hgp=>(rk_not (.ofg hg rfl))) rfl ?_;refine any_val (rk_pick_and (.of rfl) rfl) rfl ?_)
      with_reducible refine any_end ?_
      (refine n_t ?_;refine tr_cond_f (.of rfl) ?_;refine tr_skip ?_;refine tr_blk_normal ?_;refine tr_then ?_;refine tr_region ?_;refine tr_val (rk_add (.of rfl) (.of rfl) (ini (by omega))) rfl ?_;refine m_v rfl rfl ?_;refine n_t ?_)
      apply tr_next (i + 1,x) ⟨by show i + 1 ≤ b.sp.length;omega,hpre,by show x.length = _;rw [hsub];exact hxl⟩ (by show b.sp.length - (i + 1) < b.sp.length - i;omega)
      case hs1=>exact .cons rfl (.cons rfl (.cons rfl (.cons rfl (.cons rfl (.cons rfl .nil)))))
      case ht=>exact .cons .here (.cons .here .nil)
    | false =>
      have hol:o.length < b.sp.length:=by
        have:=(hdif.snoc hil hcon).len
        simp at this;omega
      have hsub:subF b (f - 1) o (i + 1) = subF b (f - 1) o i++fillsF b (f - 1) (o++[i]):=by rw [subF_succ,hcon];rfl
      obtain ⟨r,hr⟩:=subF_split (b:=b) (f:=f - 1) (o:=o) (i:=i + 1) (n:=b.sp.length) (by omega)
      have hdr:items.drop x.length = (fillsF b (f - 1) (o++[i])).map natsV9++(r.map natsV9++tl):=by
        rw [hxl,← List.drop_drop,hdrop,hr,hsub]
        simp only [List.map_append,List.append_assoc]
        rw [List.drop_append_of_le_length (by simp),List.drop_of_length_le (by simp),List.nil_append]
      have hxi:x.length ≤ items.length:=by
        have:=congrArg List.length hdrop
        rw [hr,hsub] at this
        simp only [List.length_drop,List.length_append,List.length_map] at this
        omega
      have hrec:∀ (w1:World) (fp1:List Nat) (vo:Value),Keeps fp w w1 → fp1.Nodup → (∀ q ∈ fp1,q ∈ fp ∨ w.heap.size ≤ q) → Sats (hp w1) [J x,pool 3 x (items.take x.length),row 3 1 vo (o.length + 1) (natsV9 o++[.int .i64 (i:Int)])] fp1 →
          Gives Tryz.prog 74 [vo,.pointer (some ⟨bb,0,none⟩),.pointer (some ⟨b3,0,none⟩),.pointer (some ⟨be,0,none⟩)] w1 fp1 (fun vs':List Value=>x <+: vs' ∧ vs'.length = x.length + (fillsF b (f - 1) (o++[i])).length) (fun _=>.bool true) (fun vs'=>[J vs',pool 3 vs' (items.take vs'.length)]):=by
        intro w1 fp1 vo hk1 hn1 hF1 hs1
        refine ih (f - 1) (by omega) (o++[i]) (r.map natsV9++tl) x vo w1 fp1 (hdif.snoc hil hcon) (by rw [List.length_append];show b.sp.length ≤ o.length + 1 + (f - 1);omega) hdr hxi (hB.over hF hk1) (fun q hq=>?_) hn1 (henv.step hk1 hF1) ?_
        · rcases hF1 q hq with h | h
          · exact hF q h
          · exact .inr (Nat.le_trans hB.size h)
        · rw [natsV_snoc,show (o++[i]).length = o.length + 1 by simp];exact hs1
      have hnext:∀ vs2:List Value,x <+: vs2 → vs2.length = x.length + (fillsF b (f - 1) (o++[i])).length → i + 1 ≤ b.sp.length ∧ (vs++[v]) <+: vs2 ∧ vs2.length = vs.length + 1 + (subF b (f - 1) o (i + 1)).length:=
        fun vs2 h1 h2=>⟨by omega,hpre.trans h1,by rw [h2,hxl,hsub,List.length_append];omega⟩
      (refine s_r ?_;refine tr_val (rk_lss (.of rfl) (.of rfl)) rfl ?_;refine n_t ?_;refine tr_seq ?_;refine c_d rfl (fun hcd=>?_) (fun _=>by omega);refine s_t ?_;refine tr_seq ?_;refine tr_block ?_;refine s_r ?_;refine m_v rfl rfl ?_;refine a_s rfl rfl ?_;refine n_t ?_;refine tr_seq ?_)
      refine tr_left 14 rfl ?_
      (refine left_take 0 rfl kr_ kr_ kr_ (fun w ρ=>rfl) (fun w=>(rk_move (.of rfl))) rfl ?_;refine left_take 1 rfl kr_ kr_ kr_ (fun w ρ=>rfl) (fun w=>(rk_move (.of rfl))) rfl ?_)
      refine left_ready (rs:=[2]) (by kernel_rfl) (by simp) (List.forall_mem_cons.2 ⟨?_,fun _ h=>absurd h List.not_mem_nil⟩)
      refine next_step rfl ?_
      (refine tr_callV (rk_call (.of rfl) (.cons (.of rfl) (.cons (.of rfl) .nil)) inferInstance normc_) rfl (fun w' hm'=>(containsN_c (rdPoolN hm' (.there .here) hvj hxj) hcon)) ?_;refine n_t ?_)
      (refine left_take 3 rfl kr_ kr_ kr_ (fun w ρ=>rfl) (fun w=>(rk_not (.of rfl))) rfl ?_;refine left_take 4 rfl kr_ kr_ kr_ (fun w ρ=>rfl) (fun w=>(rk_move (.of rfl))) rfl ?_)
      refine left_takeG 6 rfl rfl rfl (by kernel_rfl) (by kernel_rfl) (by kernel_rfl) (fun w ρ=>rfl) (fun w=>rk_move (Is.of rfl)) rfl ?_
      refine left_takeG 8 rfl rfl rfl (by kernel_rfl) (by kernel_rfl) (by kernel_rfl) (fun w ρ=>rfl) (fun w=>rk_move (Is.of rfl)) rfl ?_
      refine left_ready (rs:=[5,7,9]) (by kernel_rfl) (by simp) (List.forall_mem_cons.2 ⟨?_,List.forall_mem_cons.2 ⟨?_,List.forall_mem_cons.2 ⟨?_,fun _ h=>absurd h List.not_mem_nil⟩⟩⟩)
      · refine next_step rfl ?_
        refine tr_gOn rfl rfl ?_
        (refine tr_val (rk_load1 (.of rfl) (At.baseN hEe hne)) rfl ?_;refine n_t ?_)
        refine left_ready (rs:=[7,9]) (by kernel_rfl) (by simp) (List.forall_mem_cons.2 ⟨?_,List.forall_mem_cons.2 ⟨?_,fun _ h=>absurd h List.not_mem_nil⟩⟩)
        · refine next_step rfl ?_
          refine tr_gOn rfl rfl ?_
          with_reducible apply tr_call
          case hr=>exact rk_call (.of rfl) (.cons (.of rfl) .nil) inferInstance normc_
          case hd=>rfl
          case ht=>exact Takes.nil
          case hc=>
            intro w1 fp1 hm1 _ hs1
            obtain rfl:fp1 = []:=hs1
            exact cloneN_c (rdPoolN hm1 (by exact Take.there .here) hvj hxj) hlen8
          intro vc _
          dsimp only [id_eq,List.cons_append,List.nil_append]
          (refine n_t ?_)
          refine left_ready (rs:=[9]) (by kernel_rfl) (by simp) (List.forall_mem_cons.2 ⟨?_,fun _ h=>absurd h List.not_mem_nil⟩)
          · refine next_step rfl ?_
            refine tr_gOn rfl rfl ?_
            (refine tr_new (rk_sliceLit (.cons (.of rfl) .nil) rfl rfl rfl rfl) rfl (fun _ _=>?_);refine n_t ?_)
            rename_i bq hbq
            refine left_ready (rs:=[10]) (by kernel_rfl) (by simp) (List.forall_mem_cons.2 ⟨?_,fun _ h=>absurd h List.not_mem_nil⟩)
            · refine next_step rfl ?_
              refine tr_gOn rfl rfl ?_
              refine tr_appendB (.of rfl) (.of rfl) (.there .here) .here norm_ (by rfl) (okc_cons rfl okc_nil) (by rfl) (by rfl) (by rfl) lenx_ (by rfl) ?_
              intro vo
              (refine n_t ?_)
              refine left_ready (rs:=[11]) (by kernel_rfl) (by simp) (List.forall_mem_cons.2 ⟨?_,fun _ h=>absurd h List.not_mem_nil⟩)
              refine next_step rfl ?_
              refine tr_gOn rfl rfl ?_
              with_reducible apply tr_callF (As:=[J x,pool 3 x (items.take x.length),row 3 1 vo (o.length + 1) (natsV9 o++[.int .i64 (i:Int)])])
              case hr=>exact rk_call (.of rfl) (.cons (.of rfl) .nil) inferInstance normc_
              case hd=>rfl
              case ht=>exact .cons (.there (.there .here)) (.cons (.there (.there .here)) (.cons .here .nil))
              case hc=>
                intro w1 fp1 hm1 hn1 hs1 hF1 _
                exact hrec w1 fp1 vo hm1.keeps hn1 hF1 hs1
              intro vs2 hv2
              obtain ⟨hpre2,hlen2⟩:=hv2
              dsimp only [List.cons_append,List.nil_append]
              (refine n_t ?_)
              refine left_ready (rs:=[12]) (by kernel_rfl) (by simp) (List.forall_mem_cons.2 ⟨?_,fun _ h=>absurd h List.not_mem_nil⟩)
              refine next_step rfl ?_
              refine tr_gOn rfl rfl ?_
              (refine tr_val (rk_not (.of rfl)) rfl ?_;refine n_t ?_)
              refine left_ready (rs:=[13]) (by kernel_rfl) (by simp) (List.forall_mem_cons.2 ⟨?_,fun _ h=>absurd h List.not_mem_nil⟩)
              refine next_step rfl ?_
              refine tr_val (rk_pick (q:=true) (v:=.bool false) (u:=.bool false) (Is.of rfl) (Is.of rfl) (Is.of rfl)) rfl ?_
              (refine n_t ?_)
              with_reducible refine left_done (by kernel_rfl) ?_
              (refine tr_then ?_;refine tr_cond_f (.of rfl) ?_;refine tr_skip ?_;refine tr_blk_normal ?_;refine tr_then ?_;refine tr_region ?_;refine tr_val (rk_add (.of rfl) (.of rfl) (ini (by omega))) rfl ?_;refine m_v rfl rfl ?_;refine n_t ?_)
              apply tr_next (i + 1,vs2) (hnext vs2 hpre2 hlen2) (by show b.sp.length - (i + 1) < b.sp.length - i;omega)
              case hs1=>exact .cons rfl (.cons rfl (.cons rfl (.cons rfl (.cons rfl (.cons rfl .nil)))))
              case ht=>exact .cons .here (.cons .here .nil)
        · refine next_step rfl ?_
          refine tr_gOn rfl rfl ?_
          (refine tr_new (rk_sliceLit (.cons (.of rfl) .nil) rfl rfl rfl rfl) rfl (fun _ _=>?_);refine n_t ?_)
          rename_i bq hbq
          refine left_ready (rs:=[7]) (by kernel_rfl) (by simp) (List.forall_mem_cons.2 ⟨?_,fun _ h=>absurd h List.not_mem_nil⟩)
          · refine next_step rfl ?_
            refine tr_gOn rfl rfl ?_
            with_reducible apply tr_call
            case hr=>exact rk_call (.of rfl) (.cons (.of rfl) .nil) inferInstance normc_
            case hd=>rfl
            case ht=>exact Takes.nil
            case hc=>
              intro w1 fp1 hm1 _ hs1
              obtain rfl:fp1 = []:=hs1
              exact cloneN_c (rdPoolN hm1 (by exact Take.there (.there .here)) hvj hxj) hlen8
            intro vc _
            dsimp only [id_eq,List.cons_append,List.nil_append]
            (refine n_t ?_)
            refine left_ready (rs:=[10]) (by kernel_rfl) (by simp) (List.forall_mem_cons.2 ⟨?_,fun _ h=>absurd h List.not_mem_nil⟩)
            · refine next_step rfl ?_
              refine tr_gOn rfl rfl ?_
              refine tr_appendB (.of rfl) (.of rfl) .here (.there .here) norm_ (by rfl) (okc_cons rfl okc_nil) (by rfl) (by rfl) (by rfl) lenx_ (by rfl) ?_
              intro vo
              (refine n_t ?_)
              refine left_ready (rs:=[11]) (by kernel_rfl) (by simp) (List.forall_mem_cons.2 ⟨?_,fun _ h=>absurd h List.not_mem_nil⟩)
              refine next_step rfl ?_
              refine tr_gOn rfl rfl ?_
              with_reducible apply tr_callF (As:=[J x,pool 3 x (items.take x.length),row 3 1 vo (o.length + 1) (natsV9 o++[.int .i64 (i:Int)])])
              case hr=>exact rk_call (.of rfl) (.cons (.of rfl) .nil) inferInstance normc_
              case hd=>rfl
              case ht=>exact .cons (.there (.there .here)) (.cons (.there (.there .here)) (.cons .here .nil))
              case hc=>
                intro w1 fp1 hm1 hn1 hs1 hF1 _
                exact hrec w1 fp1 vo hm1.keeps hn1 hF1 hs1
              intro vs2 hv2
              obtain ⟨hpre2,hlen2⟩:=hv2
              dsimp only [List.cons_append,List.nil_append]
              (refine n_t ?_)
              refine left_ready (rs:=[12]) (by kernel_rfl) (by simp) (List.forall_mem_cons.2 ⟨?_,fun _ h=>absurd h List.not_mem_nil⟩)
              refine next_step rfl ?_
              refine tr_gOn rfl rfl ?_
              (refine tr_val (rk_not (.of rfl)) rfl ?_;refine n_t ?_)
              refine left_ready (rs:=[13]) (by kernel_rfl) (by simp) (List.forall_mem_cons.2 ⟨?_,fun _ h=>absurd h List.not_mem_nil⟩)
              refine next_step rfl ?_
              refine tr_val (rk_pick (q:=true) (v:=.bool false) (u:=.bool false) (Is.of rfl) (Is.of rfl) (Is.of rfl)) rfl ?_
              (refine n_t ?_)
              with_reducible refine left_done (by kernel_rfl) ?_
              (refine tr_then ?_;refine tr_cond_f (.of rfl) ?_;refine tr_skip ?_;refine tr_blk_normal ?_;refine tr_then ?_;refine tr_region ?_;refine tr_val (rk_add (.of rfl) (.of rfl) (ini (by omega))) rfl ?_;refine m_v rfl rfl ?_;refine n_t ?_)
              apply tr_next (i + 1,vs2) (hnext vs2 hpre2 hlen2) (by show b.sp.length - (i + 1) < b.sp.length - i;omega)
              case hs1=>exact .cons rfl (.cons rfl (.cons rfl (.cons rfl (.cons rfl (.cons rfl .nil)))))
              case ht=>exact .cons .here (.cons .here .nil)
      · refine next_step rfl ?_
        refine tr_gOn rfl rfl ?_
        with_reducible apply tr_call
        case hr=>exact rk_call (.of rfl) (.cons (.of rfl) .nil) inferInstance normc_
        case hd=>rfl
        case ht=>exact Takes.nil
        case hc=>
          intro w1 fp1 hm1 _ hs1
          obtain rfl:fp1 = []:=hs1
          exact cloneN_c (rdPoolN hm1 (by exact Take.there .here) hvj hxj) hlen8
        intro vc _
        dsimp only [id_eq,List.cons_append,List.nil_append]
        (refine n_t ?_)
        refine left_ready (rs:=[5,9]) (by kernel_rfl) (by simp) (List.forall_mem_cons.2 ⟨?_,List.forall_mem_cons.2 ⟨?_,fun _ h=>absurd h List.not_mem_nil⟩⟩)
        · refine next_step rfl ?_
          refine tr_gOn rfl rfl ?_
          (refine tr_val (rk_load1 (.of rfl) (At.baseN hEe hne)) rfl ?_;refine n_t ?_)
          refine left_ready (rs:=[9]) (by kernel_rfl) (by simp) (List.forall_mem_cons.2 ⟨?_,fun _ h=>absurd h List.not_mem_nil⟩)
          · refine next_step rfl ?_
            refine tr_gOn rfl rfl ?_
            (refine tr_new (rk_sliceLit (.cons (.of rfl) .nil) rfl rfl rfl rfl) rfl (fun _ _=>?_);refine n_t ?_)
            rename_i bq hbq
            refine left_ready (rs:=[10]) (by kernel_rfl) (by simp) (List.forall_mem_cons.2 ⟨?_,fun _ h=>absurd h List.not_mem_nil⟩)
            · refine next_step rfl ?_
              refine tr_gOn rfl rfl ?_
              refine tr_appendB (.of rfl) (.of rfl) (.there .here) .here norm_ (by rfl) (okc_cons rfl okc_nil) (by rfl) (by rfl) (by rfl) lenx_ (by rfl) ?_
              intro vo
              (refine n_t ?_)
              refine left_ready (rs:=[11]) (by kernel_rfl) (by simp) (List.forall_mem_cons.2 ⟨?_,fun _ h=>absurd h List.not_mem_nil⟩)
              refine next_step rfl ?_
              refine tr_gOn rfl rfl ?_
              with_reducible apply tr_callF (As:=[J x,pool 3 x (items.take x.length),row 3 1 vo (o.length + 1) (natsV9 o++[.int .i64 (i:Int)])])
              case hr=>exact rk_call (.of rfl) (.cons (.of rfl) .nil) inferInstance normc_
              case hd=>rfl
              case ht=>exact .cons (.there (.there .here)) (.cons (.there (.there .here)) (.cons .here .nil))
              case hc=>
                intro w1 fp1 hm1 hn1 hs1 hF1 _
                exact hrec w1 fp1 vo hm1.keeps hn1 hF1 hs1
              intro vs2 hv2
              obtain ⟨hpre2,hlen2⟩:=hv2
              dsimp only [List.cons_append,List.nil_append]
              (refine n_t ?_)
              refine left_ready (rs:=[12]) (by kernel_rfl) (by simp) (List.forall_mem_cons.2 ⟨?_,fun _ h=>absurd h List.not_mem_nil⟩)
              refine next_step rfl ?_
              refine tr_gOn rfl rfl ?_
              (refine tr_val (rk_not (.of rfl)) rfl ?_;refine n_t ?_)
              refine left_ready (rs:=[13]) (by kernel_rfl) (by simp) (List.forall_mem_cons.2 ⟨?_,fun _ h=>absurd h List.not_mem_nil⟩)
              refine next_step rfl ?_
              refine tr_val (rk_pick (q:=true) (v:=.bool false) (u:=.bool false) (Is.of rfl) (Is.of rfl) (Is.of rfl)) rfl ?_
              (refine n_t ?_)
              with_reducible refine left_done (by kernel_rfl) ?_
              (refine tr_then ?_;refine tr_cond_f (.of rfl) ?_;refine tr_skip ?_;refine tr_blk_normal ?_;refine tr_then ?_;refine tr_region ?_;refine tr_val (rk_add (.of rfl) (.of rfl) (ini (by omega))) rfl ?_;refine m_v rfl rfl ?_;refine n_t ?_)
              apply tr_next (i + 1,vs2) (hnext vs2 hpre2 hlen2) (by show b.sp.length - (i + 1) < b.sp.length - i;omega)
              case hs1=>exact .cons rfl (.cons rfl (.cons rfl (.cons rfl (.cons rfl (.cons rfl .nil)))))
              case ht=>exact .cons .here (.cons .here .nil)
        · refine next_step rfl ?_
          refine tr_gOn rfl rfl ?_
          (refine tr_new (rk_sliceLit (.cons (.of rfl) .nil) rfl rfl rfl rfl) rfl (fun _ _=>?_);refine n_t ?_)
          rename_i bq hbq
          refine left_ready (rs:=[5,10]) (by kernel_rfl) (by simp) (List.forall_mem_cons.2 ⟨?_,List.forall_mem_cons.2 ⟨?_,fun _ h=>absurd h List.not_mem_nil⟩⟩)
          · refine next_step rfl ?_
            refine tr_gOn rfl rfl ?_
            (refine tr_val (rk_load1 (.of rfl) (At.baseN hEe hne)) rfl ?_;refine n_t ?_)
            refine left_ready (rs:=[10]) (by kernel_rfl) (by simp) (List.forall_mem_cons.2 ⟨?_,fun _ h=>absurd h List.not_mem_nil⟩)
            · refine next_step rfl ?_
              refine tr_gOn rfl rfl ?_
              refine tr_appendB (.of rfl) (.of rfl) (.there .here) .here norm_ (by rfl) (okc_cons rfl okc_nil) (by rfl) (by rfl) (by rfl) lenx_ (by rfl) ?_
              intro vo
              (refine n_t ?_)
              refine left_ready (rs:=[11]) (by kernel_rfl) (by simp) (List.forall_mem_cons.2 ⟨?_,fun _ h=>absurd h List.not_mem_nil⟩)
              refine next_step rfl ?_
              refine tr_gOn rfl rfl ?_
              with_reducible apply tr_callF (As:=[J x,pool 3 x (items.take x.length),row 3 1 vo (o.length + 1) (natsV9 o++[.int .i64 (i:Int)])])
              case hr=>exact rk_call (.of rfl) (.cons (.of rfl) .nil) inferInstance normc_
              case hd=>rfl
              case ht=>exact .cons (.there (.there .here)) (.cons (.there (.there .here)) (.cons .here .nil))
              case hc=>
                intro w1 fp1 hm1 hn1 hs1 hF1 _
                exact hrec w1 fp1 vo hm1.keeps hn1 hF1 hs1
              intro vs2 hv2
              obtain ⟨hpre2,hlen2⟩:=hv2
              dsimp only [List.cons_append,List.nil_append]
              (refine n_t ?_)
              refine left_ready (rs:=[12]) (by kernel_rfl) (by simp) (List.forall_mem_cons.2 ⟨?_,fun _ h=>absurd h List.not_mem_nil⟩)
              refine next_step rfl ?_
              refine tr_gOn rfl rfl ?_
              (refine tr_val (rk_not (.of rfl)) rfl ?_;refine n_t ?_)
              refine left_ready (rs:=[13]) (by kernel_rfl) (by simp) (List.forall_mem_cons.2 ⟨?_,fun _ h=>absurd h List.not_mem_nil⟩)
              refine next_step rfl ?_
              refine tr_val (rk_pick (q:=true) (v:=.bool false) (u:=.bool false) (Is.of rfl) (Is.of rfl) (Is.of rfl)) rfl ?_
              (refine n_t ?_)
              with_reducible refine left_done (by kernel_rfl) ?_
              (refine tr_then ?_;refine tr_cond_f (.of rfl) ?_;refine tr_skip ?_;refine tr_blk_normal ?_;refine tr_then ?_;refine tr_region ?_;refine tr_val (rk_add (.of rfl) (.of rfl) (ini (by omega))) rfl ?_;refine m_v rfl rfl ?_;refine n_t ?_)
              apply tr_next (i + 1,vs2) (hnext vs2 hpre2 hlen2) (by show b.sp.length - (i + 1) < b.sp.length - i;omega)
              case hs1=>exact .cons rfl (.cons rfl (.cons rfl (.cons rfl (.cons rfl (.cons rfl .nil)))))
              case ht=>exact .cons .here (.cons .here .nil)
          · refine next_step rfl ?_
            refine tr_gOn rfl rfl ?_
            refine tr_appendB (.of rfl) (.of rfl) (.there .here) .here norm_ (by rfl) (okc_cons rfl okc_nil) (by rfl) (by rfl) (by rfl) lenx_ (by rfl) ?_
            intro vo
            (refine n_t ?_)
            refine left_ready (rs:=[5]) (by kernel_rfl) (by simp) (List.forall_mem_cons.2 ⟨?_,fun _ h=>absurd h List.not_mem_nil⟩)
            · refine next_step rfl ?_
              refine tr_gOn rfl rfl ?_
              (refine tr_val (rk_load1 (.of rfl) (At.baseN hEe hne)) rfl ?_;refine n_t ?_)
              refine left_ready (rs:=[11]) (by kernel_rfl) (by simp) (List.forall_mem_cons.2 ⟨?_,fun _ h=>absurd h List.not_mem_nil⟩)
              refine next_step rfl ?_
              refine tr_gOn rfl rfl ?_
              with_reducible apply tr_callF (As:=[J x,pool 3 x (items.take x.length),row 3 1 vo (o.length + 1) (natsV9 o++[.int .i64 (i:Int)])])
              case hr=>exact rk_call (.of rfl) (.cons (.of rfl) .nil) inferInstance normc_
              case hd=>rfl
              case ht=>exact .cons (.there (.there .here)) (.cons (.there (.there .here)) (.cons .here .nil))
              case hc=>
                intro w1 fp1 hm1 hn1 hs1 hF1 _
                exact hrec w1 fp1 vo hm1.keeps hn1 hF1 hs1
              intro vs2 hv2
              obtain ⟨hpre2,hlen2⟩:=hv2
              dsimp only [List.cons_append,List.nil_append]
              (refine n_t ?_)
              refine left_ready (rs:=[12]) (by kernel_rfl) (by simp) (List.forall_mem_cons.2 ⟨?_,fun _ h=>absurd h List.not_mem_nil⟩)
              refine next_step rfl ?_
              refine tr_gOn rfl rfl ?_
              (refine tr_val (rk_not (.of rfl)) rfl ?_;refine n_t ?_)
              refine left_ready (rs:=[13]) (by kernel_rfl) (by simp) (List.forall_mem_cons.2 ⟨?_,fun _ h=>absurd h List.not_mem_nil⟩)
              refine next_step rfl ?_
              refine tr_val (rk_pick (q:=true) (v:=.bool false) (u:=.bool false) (Is.of rfl) (Is.of rfl) (Is.of rfl)) rfl ?_
              (refine n_t ?_)
              with_reducible refine left_done (by kernel_rfl) ?_
              (refine tr_then ?_;refine tr_cond_f (.of rfl) ?_;refine tr_skip ?_;refine tr_blk_normal ?_;refine tr_then ?_;refine tr_region ?_;refine tr_val (rk_add (.of rfl) (.of rfl) (ini (by omega))) rfl ?_;refine m_v rfl rfl ?_;refine n_t ?_)
              apply tr_next (i + 1,vs2) (hnext vs2 hpre2 hlen2) (by show b.sp.length - (i + 1) < b.sp.length - i;omega)
              case hs1=>exact .cons rfl (.cons rfl (.cons rfl (.cons rfl (.cons rfl (.cons rfl .nil)))))
              case ht=>exact .cons .here (.cons .here .nil)
      · refine next_step rfl ?_
        refine tr_gOn rfl rfl ?_
        (refine tr_new (rk_sliceLit (.cons (.of rfl) .nil) rfl rfl rfl rfl) rfl (fun _ _=>?_);refine n_t ?_)
        rename_i bq hbq
        refine left_ready (rs:=[5,7]) (by kernel_rfl) (by simp) (List.forall_mem_cons.2 ⟨?_,List.forall_mem_cons.2 ⟨?_,fun _ h=>absurd h List.not_mem_nil⟩⟩)
        · refine next_step rfl ?_
          refine tr_gOn rfl rfl ?_
          (refine tr_val (rk_load1 (.of rfl) (At.baseN hEe hne)) rfl ?_;refine n_t ?_)
          refine left_ready (rs:=[7]) (by kernel_rfl) (by simp) (List.forall_mem_cons.2 ⟨?_,fun _ h=>absurd h List.not_mem_nil⟩)
          · refine next_step rfl ?_
            refine tr_gOn rfl rfl ?_
            with_reducible apply tr_call
            case hr=>exact rk_call (.of rfl) (.cons (.of rfl) .nil) inferInstance normc_
            case hd=>rfl
            case ht=>exact Takes.nil
            case hc=>
              intro w1 fp1 hm1 _ hs1
              obtain rfl:fp1 = []:=hs1
              exact cloneN_c (rdPoolN hm1 (by exact Take.there (.there .here)) hvj hxj) hlen8
            intro vc _
            dsimp only [id_eq,List.cons_append,List.nil_append]
            (refine n_t ?_)
            refine left_ready (rs:=[10]) (by kernel_rfl) (by simp) (List.forall_mem_cons.2 ⟨?_,fun _ h=>absurd h List.not_mem_nil⟩)
            · refine next_step rfl ?_
              refine tr_gOn rfl rfl ?_
              refine tr_appendB (.of rfl) (.of rfl) .here (.there .here) norm_ (by rfl) (okc_cons rfl okc_nil) (by rfl) (by rfl) (by rfl) lenx_ (by rfl) ?_
              intro vo
              (refine n_t ?_)
              refine left_ready (rs:=[11]) (by kernel_rfl) (by simp) (List.forall_mem_cons.2 ⟨?_,fun _ h=>absurd h List.not_mem_nil⟩)
              refine next_step rfl ?_
              refine tr_gOn rfl rfl ?_
              with_reducible apply tr_callF (As:=[J x,pool 3 x (items.take x.length),row 3 1 vo (o.length + 1) (natsV9 o++[.int .i64 (i:Int)])])
              case hr=>exact rk_call (.of rfl) (.cons (.of rfl) .nil) inferInstance normc_
              case hd=>rfl
              case ht=>exact .cons (.there (.there .here)) (.cons (.there (.there .here)) (.cons .here .nil))
              case hc=>
                intro w1 fp1 hm1 hn1 hs1 hF1 _
                exact hrec w1 fp1 vo hm1.keeps hn1 hF1 hs1
              intro vs2 hv2
              obtain ⟨hpre2,hlen2⟩:=hv2
              dsimp only [List.cons_append,List.nil_append]
              (refine n_t ?_)
              refine left_ready (rs:=[12]) (by kernel_rfl) (by simp) (List.forall_mem_cons.2 ⟨?_,fun _ h=>absurd h List.not_mem_nil⟩)
              refine next_step rfl ?_
              refine tr_gOn rfl rfl ?_
              (refine tr_val (rk_not (.of rfl)) rfl ?_;refine n_t ?_)
              refine left_ready (rs:=[13]) (by kernel_rfl) (by simp) (List.forall_mem_cons.2 ⟨?_,fun _ h=>absurd h List.not_mem_nil⟩)
              refine next_step rfl ?_
              refine tr_val (rk_pick (q:=true) (v:=.bool false) (u:=.bool false) (Is.of rfl) (Is.of rfl) (Is.of rfl)) rfl ?_
              (refine n_t ?_)
              with_reducible refine left_done (by kernel_rfl) ?_
              (refine tr_then ?_;refine tr_cond_f (.of rfl) ?_;refine tr_skip ?_;refine tr_blk_normal ?_;refine tr_then ?_;refine tr_region ?_;refine tr_val (rk_add (.of rfl) (.of rfl) (ini (by omega))) rfl ?_;refine m_v rfl rfl ?_;refine n_t ?_)
              apply tr_next (i + 1,vs2) (hnext vs2 hpre2 hlen2) (by show b.sp.length - (i + 1) < b.sp.length - i;omega)
              case hs1=>exact .cons rfl (.cons rfl (.cons rfl (.cons rfl (.cons rfl (.cons rfl .nil)))))
              case ht=>exact .cons .here (.cons .here .nil)
        · refine next_step rfl ?_
          refine tr_gOn rfl rfl ?_
          with_reducible apply tr_call
          case hr=>exact rk_call (.of rfl) (.cons (.of rfl) .nil) inferInstance normc_
          case hd=>rfl
          case ht=>exact Takes.nil
          case hc=>
            intro w1 fp1 hm1 _ hs1
            obtain rfl:fp1 = []:=hs1
            exact cloneN_c (rdPoolN hm1 (by exact Take.there (.there .here)) hvj hxj) hlen8
          intro vc _
          dsimp only [id_eq,List.cons_append,List.nil_append]
          (refine n_t ?_)
          refine left_ready (rs:=[5,10]) (by kernel_rfl) (by simp) (List.forall_mem_cons.2 ⟨?_,List.forall_mem_cons.2 ⟨?_,fun _ h=>absurd h List.not_mem_nil⟩⟩)
          · refine next_step rfl ?_
            refine tr_gOn rfl rfl ?_
            (refine tr_val (rk_load1 (.of rfl) (At.baseN hEe hne)) rfl ?_;refine n_t ?_)
            refine left_ready (rs:=[10]) (by kernel_rfl) (by simp) (List.forall_mem_cons.2 ⟨?_,fun _ h=>absurd h List.not_mem_nil⟩)
            · refine next_step rfl ?_
              refine tr_gOn rfl rfl ?_
              refine tr_appendB (.of rfl) (.of rfl) .here (.there .here) norm_ (by rfl) (okc_cons rfl okc_nil) (by rfl) (by rfl) (by rfl) lenx_ (by rfl) ?_
              intro vo
              (refine n_t ?_)
              refine left_ready (rs:=[11]) (by kernel_rfl) (by simp) (List.forall_mem_cons.2 ⟨?_,fun _ h=>absurd h List.not_mem_nil⟩)
              refine next_step rfl ?_
              refine tr_gOn rfl rfl ?_
              with_reducible apply tr_callF (As:=[J x,pool 3 x (items.take x.length),row 3 1 vo (o.length + 1) (natsV9 o++[.int .i64 (i:Int)])])
              case hr=>exact rk_call (.of rfl) (.cons (.of rfl) .nil) inferInstance normc_
              case hd=>rfl
              case ht=>exact .cons (.there (.there .here)) (.cons (.there (.there .here)) (.cons .here .nil))
              case hc=>
                intro w1 fp1 hm1 hn1 hs1 hF1 _
                exact hrec w1 fp1 vo hm1.keeps hn1 hF1 hs1
              intro vs2 hv2
              obtain ⟨hpre2,hlen2⟩:=hv2
              dsimp only [List.cons_append,List.nil_append]
              (refine n_t ?_)
              refine left_ready (rs:=[12]) (by kernel_rfl) (by simp) (List.forall_mem_cons.2 ⟨?_,fun _ h=>absurd h List.not_mem_nil⟩)
              refine next_step rfl ?_
              refine tr_gOn rfl rfl ?_
              (refine tr_val (rk_not (.of rfl)) rfl ?_;refine n_t ?_)
              refine left_ready (rs:=[13]) (by kernel_rfl) (by simp) (List.forall_mem_cons.2 ⟨?_,fun _ h=>absurd h List.not_mem_nil⟩)
              refine next_step rfl ?_
              refine tr_val (rk_pick (q:=true) (v:=.bool false) (u:=.bool false) (Is.of rfl) (Is.of rfl) (Is.of rfl)) rfl ?_
              (refine n_t ?_)
              with_reducible refine left_done (by kernel_rfl) ?_
              (refine tr_then ?_;refine tr_cond_f (.of rfl) ?_;refine tr_skip ?_;refine tr_blk_normal ?_;refine tr_then ?_;refine tr_region ?_;refine tr_val (rk_add (.of rfl) (.of rfl) (ini (by omega))) rfl ?_;refine m_v rfl rfl ?_;refine n_t ?_)
              apply tr_next (i + 1,vs2) (hnext vs2 hpre2 hlen2) (by show b.sp.length - (i + 1) < b.sp.length - i;omega)
              case hs1=>exact .cons rfl (.cons rfl (.cons rfl (.cons rfl (.cons rfl (.cons rfl .nil)))))
              case ht=>exact .cons .here (.cons .here .nil)
          · refine next_step rfl ?_
            refine tr_gOn rfl rfl ?_
            refine tr_appendB (.of rfl) (.of rfl) .here (.there .here) norm_ (by rfl) (okc_cons rfl okc_nil) (by rfl) (by rfl) (by rfl) lenx_ (by rfl) ?_
            intro vo
            (refine n_t ?_)
            refine left_ready (rs:=[5]) (by kernel_rfl) (by simp) (List.forall_mem_cons.2 ⟨?_,fun _ h=>absurd h List.not_mem_nil⟩)
            · refine next_step rfl ?_
              refine tr_gOn rfl rfl ?_
              (refine tr_val (rk_load1 (.of rfl) (At.baseN hEe hne)) rfl ?_;refine n_t ?_)
              refine left_ready (rs:=[11]) (by kernel_rfl) (by simp) (List.forall_mem_cons.2 ⟨?_,fun _ h=>absurd h List.not_mem_nil⟩)
              refine next_step rfl ?_
              refine tr_gOn rfl rfl ?_
              with_reducible apply tr_callF (As:=[J x,pool 3 x (items.take x.length),row 3 1 vo (o.length + 1) (natsV9 o++[.int .i64 (i:Int)])])
              case hr=>exact rk_call (.of rfl) (.cons (.of rfl) .nil) inferInstance normc_
              case hd=>rfl
              case ht=>exact .cons (.there (.there .here)) (.cons (.there (.there .here)) (.cons .here .nil))
              case hc=>
                intro w1 fp1 hm1 hn1 hs1 hF1 _
                exact hrec w1 fp1 vo hm1.keeps hn1 hF1 hs1
              intro vs2 hv2
              obtain ⟨hpre2,hlen2⟩:=hv2
              dsimp only [List.cons_append,List.nil_append]
              (refine n_t ?_)
              refine left_ready (rs:=[12]) (by kernel_rfl) (by simp) (List.forall_mem_cons.2 ⟨?_,fun _ h=>absurd h List.not_mem_nil⟩)
              refine next_step rfl ?_
              refine tr_gOn rfl rfl ?_
              (refine tr_val (rk_not (.of rfl)) rfl ?_;refine n_t ?_)
              refine left_ready (rs:=[13]) (by kernel_rfl) (by simp) (List.forall_mem_cons.2 ⟨?_,fun _ h=>absurd h List.not_mem_nil⟩)
              refine next_step rfl ?_
              refine tr_val (rk_pick (q:=true) (v:=.bool false) (u:=.bool false) (Is.of rfl) (Is.of rfl) (Is.of rfl)) rfl ?_
              (refine n_t ?_)
              with_reducible refine left_done (by kernel_rfl) ?_
              (refine tr_then ?_;refine tr_cond_f (.of rfl) ?_;refine tr_skip ?_;refine tr_blk_normal ?_;refine tr_then ?_;refine tr_region ?_;refine tr_val (rk_add (.of rfl) (.of rfl) (ini (by omega))) rfl ?_;refine m_v rfl rfl ?_;refine n_t ?_)
              apply tr_next (i + 1,vs2) (hnext vs2 hpre2 hlen2) (by show b.sp.length - (i + 1) < b.sp.length - i;omega)
              case hs1=>exact .cons rfl (.cons rfl (.cons rfl (.cons rfl (.cons rfl (.cons rfl .nil)))))
              case ht=>exact .cons .here (.cons .here .nil)
  · obtain rfl:i = b.sp.length:=by omega
    (refine s_r ?_;refine tr_val (rk_lss (.of rfl) (.of rfl)) rfl ?_;refine n_t ?_;refine tr_seq ?_;refine c_d rfl (fun _=>by omega) (fun hcd=>?_);refine x_t ?_;refine tr_then_exit ?_;refine tr_blk_exit ?_;refine tr_then ?_;refine s_r ?_;refine a_s rfl rfl ?_;refine n_t ?_;refine tr_ret ?_)
    first | with_reducible apply tr_retM | with_reducible apply tr_endM
    case he=>exact ends1 rfl rfl
    case hR=>
      intro w' hm'
      exact gives_end x ⟨List.IsPrefix.trans (List.prefix_append _ _) hpre,by rw [hxl,List.length_cons];omega⟩ (show Takes _ [J x,pool 3 x (items.take x.length)] _ by exact .cons .here (.cons .here .nil)) hm' rfl
end Go.Proofs.A1
namespace Go.Proofs.A1
open Go Go.SL
def cmpF (x y:Int):Int:=if x < y then -1 else if y < x then 1 else 0
theorem nan_c (x:Int) (w:World):GivesV Tryz.prog 78 [.int .i64 x] w (.bool false):=by
  refine givesV_of_tr Tryz.func78 rfl rfl ?_
  (refine s_r ?_;refine a_s rfl rfl ?_;refine n_r ?_;refine m_v rfl rfl ?_;refine m_v rfl rfl ?_;refine tr_val (rk_neq (.of rfl) (.of rfl)) rfl ?_;refine a_s rfl rfl ?_;refine n_t ?_;refine tr_ret ?_;refine tr_retE rfl (ends1 rfl rfl) ?_)
  simp
theorem cmp_c (x y:Int) (w:World):GivesV Tryz.prog 37 [.int .i64 x,.int .i64 y] w (.int .i64 (cmpF x y)):=by
  refine givesV_of_tr Tryz.func37 rfl rfl ?_
  (refine s_r ?_;refine a_s rfl rfl ?_;refine n_r ?_;refine m_v rfl rfl ?_;refine tr_callV (rk_call (.of rfl) (.cons (.of rfl) .nil) inferInstance normc_) rfl (fun w' hm'=>(nan_c x w')) ?_;refine a_s rfl rfl ?_;refine n_r ?_;refine m_v rfl rfl ?_;refine tr_callV (rk_call (.of rfl) (.cons (.of rfl) .nil) inferInstance normc_) rfl (fun w' hm'=>(nan_c y w')) ?_;refine a_s rfl rfl ?_;refine n_t ?_;refine tr_seq ?_;refine s_r ?_;refine m_v rfl rfl ?_;refine n_t ?_;refine tr_cond_f (.of rfl) ?_;refine s_t ?_;refine tr_seq ?_;refine s_r ?_;refine m_v rfl rfl ?_;refine n_t ?_;refine tr_cond_f (.of rfl) ?_;refine s_t ?_;refine tr_seq ?_;refine s_r ?_;refine m_v rfl rfl ?_;refine m_v rfl rfl ?_;refine tr_val (rk_lss (.of rfl) (.of rfl)) rfl ?_;refine n_t ?_;refine c_d rfl (fun hcd=>?_) (fun hcd=>?_);refine s_r ?_;refine a_s rfl rfl ?_;refine n_t ?_;refine r_t ?_;refine tr_retE rfl (ends1 rfl rfl) ?_;rotate_left;refine s_t ?_;refine tr_seq ?_;refine s_r ?_;refine m_v rfl rfl ?_;refine m_v rfl rfl ?_;refine tr_val (rk_gtr (.of rfl) (.of rfl)) rfl ?_;refine n_t ?_;refine c_d rfl (fun hcd=>?_) (fun hcd=>?_);refine s_r ?_;refine a_s rfl rfl ?_;refine n_t ?_;refine r_t ?_;refine tr_retE rfl (ends1 rfl rfl) ?_;rotate_left;refine s_t ?_;refine s_r ?_;refine a_s rfl rfl ?_;refine n_t ?_;refine tr_ret ?_;refine tr_retE rfl (ends1 rfl rfl) ?_;rotate_right;rotate_right)
  · rw [cmpF,if_pos hcd]
  · rename_i h1
    rw [cmpF,if_neg h1,if_pos hcd]
  · rename_i h1
    rw [cmpF,if_neg h1,if_neg hcd]
theorem or_c {lv:Value} {l:List Int} {w:World} (h:Rd w lv 1 (ints l)):GivesV Tryz.prog 36 [lv] w (.int .i64 (firstF l)):=by
  obtain ⟨a,cp,b,o,rfl,hcap,hmax,ha,hc⟩:=h
  rw [ints_length] at *
  unfold maxLen at hmax
  refine givesV_of_tr Tryz.func36 rfl rfl ?_
  (refine s_r ?_;refine a_s rfl rfl ?_;refine n_r ?_;refine a_s rfl rfl ?_;refine n_t ?_;refine tr_seq ?_;refine s_r ?_;refine m_v rfl rfl ?_;refine tr_val (rk_len_slice (.of rfl)) rfl ?_;refine m_v rfl rfl ?_;refine n_t ?_;refine tr_block ?_)
  refine tr_for (fun k:Nat=>k ≤ l.length ∧ firstF l = firstF (l.drop k)) (fun k=>[(8,.int .i64 k),(7,.int .i64 l.length),(6,.slice a l.length cp),(3,.int .i64 0)]) (fun _=>[]) (fun k=>l.length - k) ?_ ?_
  · apply tr_start 0 ⟨Nat.zero_le _,rfl⟩
    case hs1=>exact .cons rfl (.cons rfl (.cons rfl (.cons rfl .nil)))
    case ht=>(try simp only [List.take_zero,List.map_nil,List.nil_append]);exact .nil
  rintro k ⟨hk,hf⟩
  by_cases hlt:k < l.length
  · have ha':=ha (ints_ne hlt)
    have c0:w.cell? ⟨b,o + k * 1,none⟩ = some (.int .i64 l[k]):=(hc k _ (ints_get hlt)).2 0 _ rfl
    have hat:=firstF_at hlt
    (refine s_r ?_;refine tr_val (rk_lss (.of rfl) (.of rfl)) rfl ?_;refine n_t ?_;refine tr_seq ?_;refine c_d rfl (fun hcd=>?_) (fun _=>by omega);refine s_t ?_;refine tr_seq ?_;refine tr_block ?_;refine s_r ?_;refine tr_val (rk_indexAddr (.of rfl) (.of rfl) ha' (by omega) hcd norm1_) rfl ?_;refine tr_val (rk_load1 (.of rfl) (At.base c0 rfl)) rfl ?_;refine a_s rfl rfl ?_;refine n_r ?_;refine m_v rfl rfl ?_;refine m_v rfl rfl ?_;refine tr_val (rk_neq (.of rfl) (.of rfl)) rfl ?_;refine n_t ?_;refine c_d rfl (fun hcd=>?_) (fun hcd=>?_);refine s_r ?_;refine m_v rfl rfl ?_;refine a_s rfl rfl ?_;refine n_t ?_;refine tr_ret ?_;refine tr_blk_ret ?_;refine tr_then_ret ?_;refine tr_then_ret ?_;refine tr_blk_ret ?_;refine tr_then_ret ?_;refine tr_retE rfl (ends1 rfl rfl) ?_;rotate_left;refine tr_skip ?_;refine tr_blk_normal ?_;refine tr_then ?_;refine tr_region ?_;refine tr_val (rk_add (.of rfl) (.of rfl) (ini (by omega))) rfl ?_;refine m_v rfl rfl ?_;refine n_t ?_;rotate_right)
    · rw [hf,hat,if_pos hcd]
    · apply tr_next (k + 1) ⟨by omega,by rw [hf,hat,if_neg hcd]⟩ (by omega)
      case hs1=>exact .cons rfl (.cons rfl (.cons rfl (.cons rfl .nil)))
      case ht=>(try simp only [List.take_zero,List.map_nil,List.nil_append]);exact .nil
  · obtain rfl:k = l.length:=by omega
    (refine s_r ?_;refine tr_val (rk_lss (.of rfl) (.of rfl)) rfl ?_;refine n_t ?_;refine tr_seq ?_;refine c_d rfl (fun _=>by omega) (fun hcd=>?_);refine x_t ?_;refine tr_then_exit ?_;refine tr_blk_exit ?_;refine tr_then ?_;refine s_r ?_;refine m_v rfl rfl ?_;refine a_s rfl rfl ?_;refine n_t ?_;refine tr_ret ?_;refine tr_retE rfl (ends1 rfl rfl) ?_)
    rw [hf,List.drop_length];rfl
theorem better_eq (b:Br) (x y:List Nat):decide (0 < firstF [cmpF (tV b.sp x x.length) (tV b.sp y y.length),cmpF (tL b.sp x x.length) (tL b.sp y y.length)]) = betterB b x y:=by
  unfold betterB
  generalize tV b.sp x x.length = p
  generalize tV b.sp y y.length = q
  generalize tL b.sp x x.length = r
  generalize tL b.sp y y.length = s
  have e1:cmpF p q = -1 ∧ p < q ∨ cmpF p q = 1 ∧ q < p ∨ cmpF p q = 0 ∧ p = q:=by
    unfold cmpF;split
    · exact .inl ⟨rfl,by assumption⟩
    · split
      · exact .inr (.inl ⟨rfl,by assumption⟩)
      · exact .inr (.inr ⟨rfl,by omega⟩)
  have e2:cmpF r s = -1 ∧ r < s ∨ cmpF r s = 1 ∧ s < r ∨ cmpF r s = 0 ∧ r = s:=by
    unfold cmpF;split
    · exact .inl ⟨rfl,by assumption⟩
    · split
      · exact .inr (.inl ⟨rfl,by assumption⟩)
      · exact .inr (.inr ⟨rfl,by omega⟩)
  rcases e1 with ⟨e1,h1⟩ | ⟨e1,h1⟩ | ⟨e1,h1⟩
  · rw [e1,decide_eq_false (p:=q < p) (by omega),decide_eq_false (p:=p = q) (by omega)]
    simp [firstF]
  · rw [e1,decide_eq_true (p:=q < p) h1]
    simp [firstF]
  · rw [e1,decide_eq_false (p:=q < p) (by omega),decide_eq_true (p:=p = q) h1]
    rcases e2 with ⟨e2,h2⟩ | ⟨e2,h2⟩ | ⟨e2,h2⟩
    · rw [e2,decide_eq_false (p:=s < r) (by omega)];simp [firstF]
    · rw [e2,decide_eq_true (p:=s < r) h2];simp [firstF]
    · rw [e2,decide_eq_false (p:=s < r) (by omega)];simp [firstF]
theorem fillsF_dif {b:Br}:∀ {f:Nat} {o:List Nat},Dif b.sp.length o → ∀ q ∈ fillsF b f o,Dif b.sp.length q
  | 0, o, h, q, hq => by
    rw [fillsF] at hq
    split at hq
    · cases hq
    · simp only [List.mem_singleton] at hq;subst hq;exact h
  | f + 1, o, h, q, hq => by
    rw [fillsF] at hq
    split at hq
    · cases hq
    · rcases List.mem_cons.1 hq with e | hq
      · subst e;exact h
      · obtain ⟨i,hi,hq⟩:=List.mem_flatMap.1 hq
        split at hq
        · cases hq
        · rename_i hc
          exact fillsF_dif (h.snoc (List.mem_range.1 hi) (by simpa using hc)) q hq
theorem fillsI_c {b:Br} (hok:BrOk b) {bb:Nat} {sv cv xv:Value} {w0 w:World} {md:List Nat} (h1:Rd w0 sv 4 (spsL b.sp)) (h2:Rd w0 cv 1 (ints b.cm)) (h3:Rd w0 xv 2 (prsL b.ex)) (o1:Out md sv (spsL b.sp)) (o2:Out md cv (ints b.cm)) (o3:Out md xv (prsL b.ex)) :
    IterP Tryz.prog 73 [] [.pointer (some ⟨bb,0,none⟩)] [blk bb (.cells #[.int .i64 b.n,sv,cv,xv] 58 (0,0))] 3 ((fillsF b b.sp.length []).map natsV9) w0 md w:=by
  intro l fp J hB hF hn hs hY
  refine givesM_of_tr Tryz.func73 rfl rfl hn hs ?_
  (refine s_r ?_;refine tr_new (rk_box (.of rfl) rfl) rfl (fun _ _=>?_);refine n_r ?_;refine tr_new (rk_alloc rfl) rfl (fun _ _=>?_);refine n_r ?_;refine tr_val (rk_makeFunc' .nil (.cons (.of rfl) (.cons (.of rfl) (.cons (.of rfl) .nil)))) rfl ?_;refine tr_store (.of rfl) (.of rfl) .here rfl rfl (okc_cons rfl okc_nil) (lenb rfl) norm_ ?_;refine n_t ?_;refine tr_region ?_;refine tr_val (rk_load1 (.of rfl) (At.lit .here rfl)) rfl ?_)
  rename_i b3 hb3 be hbe
  refine tr_poolNil 3 ?_
  refine tr_rowNil 3 1 ?_
  with_reducible apply tr_callF (As:=[J [],pool 3 [] [],row 3 1 (.slice none 0 0) 0 []])
  case hr=>exact rk_call (.of rfl) (.cons (.of rfl) .nil) inferInstance normc_
  case hd=>rfl
  case ht=>exact .cons (.there (.there (.there (.there .here)))) (.cons (.there .here) (.cons .here .nil))
  case hc=>
    intro w1 fp1 hm1 hn1 hs1 hF1 hdis
    have hk1:=hB.over hF hm1.keeps
    have hF2:∀ x ∈ fp1,x ∈ md ∨ w0.heap.size ≤ x:=fun x hx=>by
      rcases hF1 x hx with h | h
      · exact hF x h
      · exact .inr (Nat.le_trans hB.size h)
    refine ext_c hok hY b.sp.length [] [] [] _ w1 fp1 (Dif.nil _) (by simp) (by simp) (by simp) hk1 hF2 hn1 ⟨?_,?_,?_,?_,?_,?_,?_,?_,?_,h1.keepsN o1 hk1,h2.keepsN o2 hk1,h3.keepsN o3 hk1,h1.out (by omega) o1 hF2,h2.out (by omega) o2 hF2,h3.out (by omega) o3 hF2⟩ hs1
    · exact At.lit (by exact Take.there (.there (.there (.there (.there .here))))) rfl w1 hm1
    · exact At.lit (by exact Take.there (.there (.there (.there (.there .here))))) rfl w1 hm1
    · exact At.lit (by exact Take.there (.there (.there (.there (.there .here))))) rfl w1 hm1
    · exact At.lit (by exact Take.there (.there (.there (.there (.there .here))))) rfl w1 hm1
    · exact At.lit (by exact Take.there (.there (.there .here))) rfl w1 hm1
    · exact At.lit (by exact Take.there (.there .here)) rfl w1 hm1
    · exact hdis _ _ _ (by exact Take.there (.there .here))
    · exact hdis _ _ _ (by exact Take.there .here)
    · exact hdis _ _ _ (by exact .here)
  intro vs2 hv2
  obtain ⟨_,hlen⟩:=hv2
  dsimp only [List.cons_append,List.nil_append]
  have hlen':vs2.length = ((fillsF b b.sp.length []).map natsV9).length:=by rw [hlen,List.length_map,List.length_nil,Nat.zero_add]
  rw [List.take_of_length_le (l:=(fillsF b b.sp.length []).map natsV9) (i:=vs2.length) (by omega)]
  refine tr_nil ?_
  first | with_reducible apply tr_retM | with_reducible apply tr_endM
  case he=>exact ends0 rfl
  case hR=>
    intro w' hm'
    exact gives_end vs2 hlen' (show Takes _ [J vs2,pool 3 vs2 ((fillsF b b.sp.length []).map natsV9),blk bb (.cells #[.int .i64 b.n,sv,cv,xv] 58 (0,0))] _ by exact .cons .here (.cons .here (.cons (.there (.there .here)) .nil))) hm' rfl
theorem fillings_c {n:Int} (sv cv xv:Value) (w:World) (h1:sv.oneCell' = true) (h2:cv.oneCell' = true) (h3:xv.oneCell' = true) :
    Gives Tryz.prog 34 [.agg #[.int .i64 n,sv,cv,xv]] w [] (fun _:Nat=>True) (fun x=>.func (.func 73) #[] #[.pointer (some ⟨x,0,none⟩)])
      (fun x=>[blk x (.cells #[.int .i64 n,sv,cv,xv] 58 (0,0))]):=by
  refine gives_of_tr Tryz.func34 rfl rfl ?_
  (refine s_r ?_;refine tr_new (rk_box (.of rfl) rfl) rfl (fun _ _=>?_);refine a_s rfl rfl ?_;refine n_r ?_;refine tr_val (rk_makeFunc' .nil (.cons (.of rfl) .nil)) rfl ?_;refine a_s rfl rfl ?_;refine n_t ?_;refine tr_ret ?_)
  rename_i b hb
  first | with_reducible apply tr_retM | with_reducible apply tr_endM
  case he=>exact ends1 rfl rfl
  case hR=>
    intro w' hm'
    exact gives_end b trivial (by exact .cons .here .nil) hm' rfl
end Go.Proofs.A1
