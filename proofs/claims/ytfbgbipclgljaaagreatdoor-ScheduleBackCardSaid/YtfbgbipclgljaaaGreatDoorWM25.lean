/- Parts of the proof: W1p R13 R14 S67 S86 W2p S73p. -/
import Derived.Test.YtfbgbipclgljaaaGreatDoorWM24
import Derived.Test.YtfbgbipclgljaaaGreatDoorWM22
import Derived.Test.YtfbgbipclgljaaaGreatDoorWM06
import Derived.Test.YtfbgbipclgljaaaGreatDoorWM20
import Derived.Test.YtfbgbipclgljaaaGreatDoorWM08
import Derived.Test.YtfbgbipclgljaaaGreatDoorWM09
set_option linter.unusedSectionVars false
set_option linter.unusedVariables false
set_option linter.unusedSimpArgs false
namespace Go.Proofs.A1
open Go Go.SL
theorem splL_free {c:UInt8}:∀ {a:List UInt8},c ∉ a → splL c a = [a]
  | [],_=>rfl
  | x :: r, h => by
    have hx:¬ x = c:=fun e=>h (by rw [e];simp)
    rw [splL,if_neg hx,splL_free (a:=r) (fun e=>h (by simp [e]))];rfl
theorem splL_app {c:UInt8} {b:List UInt8}:∀ {a:List UInt8},c ∉ a → splL c (a++c :: b) = a :: splL c b
  | [],_=>by rw [List.nil_append,splL,if_pos rfl]
  | x :: r, h => by
    have hx:¬ x = c:=fun e=>h (by rw [e];simp)
    rw [List.cons_append,splL,if_neg hx,splL_app (a:=r) (fun e=>h (by simp [e]))];rfl
theorem join_two (c:UInt8) (x y:List UInt8) (r:List (List UInt8)):Lib.join (x :: y :: r) [c] = x++c :: Lib.join (y :: r) [c]:=by
  rw [Lib.join_cons,Lib.join_cons]
  unfold Lib.joinTail
  rw [List.map_cons,List.flatten_cons]
  simp
theorem splL_join {c:UInt8}:∀ (r:List (List UInt8)) (x:List UInt8),(∀ y ∈ x :: r,c ∉ y) → splL c (Lib.join (x :: r) [c]) = x :: r
  | [],x,h=>by rw [Lib.join_one];exact splL_free (h x (by simp))
  | y :: r, x, h => by
    rw [join_two,splL_app (h x (by simp)),splL_join r y fun z hz=>h z (List.mem_cons_of_mem _ hz)]
theorem join_splL (c:UInt8):∀ l:List UInt8,Lib.join (splL c l) [c] = l
  | []=>by rw [splL,Lib.join_one]
  | x :: r => by
    have ih:=join_splL c r
    have hr:=splL_cons c r
    generalize hh:(splL c r).headD [] = h at hr
    generalize ht:(splL c r).tail = t at hr
    rw [splL]
    split
    · rename_i e
      subst e
      rw [hr,join_two,← hr,ih];rfl
    · rw [hh,ht]
      rw [hr] at ih
      cases t with
      | nil=>rw [Lib.join_one] at ih ⊢;rw [ih]
      | cons y t=>rw [join_two] at ih ⊢;rw [List.cons_append,ih]
theorem flat_lines:∀ L:List (List UInt8),Lib.join (L++[[]]) [10] = (L.map (·++[10])).flatten
  | []=>by rw [List.nil_append,Lib.join_one];rfl
  | [x]=>by rw [List.cons_append,List.nil_append,join_two,Lib.join_one];simp
  | x :: y :: L => by
    rw [List.cons_append,List.cons_append,join_two,← List.cons_append,flat_lines (y :: L)]
    simp
theorem splL_lines {L:List (List UInt8)} (h:∀ x ∈ L,(10:UInt8) ∉ x):splL 10 ((L.map (·++[10])).flatten) = L++[[]]:=by
  rw [← flat_lines]
  cases L with
  | nil=>rfl
  | cons x L =>
    rw [List.cons_append]
    refine splL_join _ x fun y hy=>?_
    rw [← List.cons_append] at hy
    rcases List.mem_append.1 hy with e | e
    · exact h y e
    · rw [List.mem_singleton.1 e];simp
theorem ofNat_toNat {k:Nat} (h:k < 256):(UInt8.ofNat k).toNat = k:=by simp [Nat.mod_eq_of_lt h]
theorem dec_lt {m:Nat} (h:m < 10):Lib.decDigits m = [UInt8.ofNat (48 + m)]:=by rw [Lib.decDigits,dif_pos h]
theorem dec_ge {m:Nat} (h:¬ m < 10):Lib.decDigits m = Lib.decDigits (m / 10)++[UInt8.ofNat (48 + m % 10)]:=by rw [Lib.decDigits,dif_neg h]
theorem isDg_of {k:Nat} (h:k < 10):isDg (UInt8.ofNat (48 + k)) = true:=by
  unfold isDg
  rw [ofNat_toNat (by omega),decide_eq_true (by omega),decide_eq_true (by omega)];rfl
theorem digB_app (a b:List UInt8):digB (a++b) = (digB a && digB b):=by unfold digB;rw [List.all_append]
theorem dec_all (m:Nat):digB (Lib.decDigits m) = true ∧ digV (Lib.decDigits m) = m ∧ Lib.decDigits m ≠ [] ∧ (1 ≤ m → (Lib.decDigits m).headD 0 ≠ 48):=by
  induction m using Nat.strongRecOn with
  | _ m ih =>
    by_cases h:m < 10
    · rw [dec_lt h]
      refine ⟨?_,?_,by simp,fun h1=>?_⟩
      · unfold digB;rw [List.all_cons,isDg_of h];rfl
      · show 10 * 0 + (((UInt8.ofNat (48 + m)).toNat:Int) - 48) = m
        rw [ofNat_toNat (by omega)];omega
      · rw [List.headD_cons]
        intro e
        have:=congrArg UInt8.toNat e
        rw [ofNat_toNat (by omega)] at this
        have h48:(48:UInt8).toNat = 48:=rfl
        omega
    · obtain ⟨i1,i2,i3,i4⟩:=ih (m / 10) (by omega)
      rw [dec_ge h]
      refine ⟨?_,?_,by simp,fun _=>?_⟩
      · rw [digB_app,i1]
        unfold digB;rw [List.all_cons,isDg_of (by omega)];rfl
      · rw [digV_snoc,i2,ofNat_toNat (by omega)];omega
      · have:=i4 (by omega)
        cases hd:Lib.decDigits (m / 10) with
        | nil=>exact absurd hd i3
        | cons a b=>rw [hd] at this;exact this
theorem num_dec {m:Nat} (h:m < 1000000000):numB (Lib.decDigits m) = true ∧ intV (Lib.decDigits m) = m:=by
  obtain ⟨i1,i2,i3,i4⟩:=dec_all m
  have hl:=decDigits_len m 9 (by omega) (by omega)
  have hn:numB (Lib.decDigits m) = true:=numB_iff.2 ⟨i3,i1,hl,by
    by_cases h0:m < 10
    · left;rw [dec_lt h0];rfl
    · exact .inr (i4 (by omega))⟩
  exact ⟨hn,by rw [intV_num hn,i2]⟩
theorem isDg_eq {c:UInt8} (h:isDg c = true):∃ k:Nat,k < 10 ∧ c = UInt8.ofNat (48 + k) ∧ (c.toNat:Int) - 48 = k:=by
  unfold isDg at h
  rw [Bool.and_eq_true,decide_eq_true_eq,decide_eq_true_eq] at h
  refine ⟨c.toNat - 48,by omega,?_,by omega⟩
  rw [show 48 + (c.toNat - 48) = c.toNat by omega]
  simp
theorem dec_dig:∀ (n:Nat) (l:List UInt8),l.length = n + 1 → digB l = true → l.headD 0 ≠ 48 → 1 ≤ digV l ∧ Lib.decDigits (digV l).toNat = l
  | 0, l, hl, hd, hh => by
    match l,hl with
    | [c], _ =>
      have hc:isDg c = true:=by unfold digB at hd;simpa using hd
      obtain ⟨k,hk,e,hv⟩:=isDg_eq hc
      have hk1:k ≠ 0:=fun e0=>hh (by rw [List.headD_cons,e,e0];rfl)
      have hvv:digV [c] = k:=by show 10 * 0 + ((c.toNat:Int) - 48) = k;omega
      rw [hvv]
      refine ⟨by omega,?_⟩
      rw [Int.toNat_natCast,dec_lt hk,← e]
  | n + 1, l, hl, hd, hh => by
    have hne:l ≠ []:=fun e=>by rw [e] at hl;cases hl
    obtain ⟨a,c,rfl⟩:∃ a c,l = a++[c]:=⟨l.dropLast,l.getLast hne,(List.dropLast_concat_getLast hne).symm⟩
    rw [List.length_append,List.length_singleton] at hl
    rw [digB_app,Bool.and_eq_true] at hd
    have hc:isDg c = true:=by have:=hd.2;unfold digB at this;simpa using this
    have hha:a.headD 0 ≠ 48:=by
      cases a with
      | nil=>simp at hl
      | cons x r=>exact hh
    obtain ⟨h1,h2⟩:=dec_dig n a (by omega) hd.1 hha
    obtain ⟨k,hk,e,hv⟩:=isDg_eq hc
    rw [digV_snoc,hv]
    refine ⟨by omega,?_⟩
    rw [dec_ge (by omega),show (10 * digV a + (k:Int)).toNat / 10 = (digV a).toNat by omega,h2,show (10 * digV a + (k:Int)).toNat % 10 = k by omega,← e]
theorem itoa_num {l:List UInt8} (h:numB l = true):itoaB (intV l) = bsL l:=by
  obtain ⟨h1,h2,h3,h4⟩:=numB_iff.1 h
  rw [intV_num h]
  have hr:=digV_range h2
  have e:digV l = ((digV l).toNat:Int):=by omega
  rw [e,itoaB_nat]
  congr 1
  by_cases h48:l.headD 0 = 48
  · rcases h4 with h4 | h4
    · match l,h4 with
      | [c], _ =>
        rw [List.headD_cons] at h48
        subst h48
        exact dec_lt (m:=0) (by decide)
    · exact absurd h48 h4
  · cases hl:l.length with
    | zero=>exact absurd (List.length_eq_zero_iff.1 hl) h1
    | succ n=>exact (dec_dig n l hl h2 h48).2
theorem okB_in {s:ByteArray} (h:nameF s = true):∀ x ∈ toL s,okB (x.toNat:Int) = true:=by
  intro x hx
  obtain ⟨i,hi⟩:=List.mem_iff_getElem?.1 hx
  have hb:bt s i = (x.toNat:Int):=by
    unfold bt
    rw [show s.data.toList[i]? = some x from hi];rfl
  unfold nameF at h
  simp only [Bool.and_eq_true,decide_eq_true_eq] at h
  obtain ⟨⟨⟨h1,h2⟩,h3⟩,h4⟩:=h
  rw [← hb]
  by_cases e:i = 0
  · subst e
    unfold okB;rw [h3];rfl
  · unfold okF at h4
    rw [List.all_eq_true] at h4
    have hlt:=(List.getElem?_eq_some_iff.1 hi).1
    rw [← size_toL] at hlt
    exact h4 i (by rw [List.mem_range'_1];omega)
theorem name_free {s:ByteArray} (h:nameF s = true):(10:UInt8) ∉ toL s ∧ (32:UInt8) ∉ toL s ∧ toL s ≠ [] ∧ (toL s).length ≤ 24:=by
  refine ⟨fun hx=>?_,fun hx=>?_,fun e=>?_,?_⟩
  · have:=okB_in h _ hx;revert this;decide
  · have:=okB_in h _ hx;revert this;decide
  · unfold nameF at h
    simp only [Bool.and_eq_true,decide_eq_true_eq] at h
    have:=h.1.1.1
    rw [size_toL,e] at this
    exact absurd this (by decide)
  · unfold nameF at h
    simp only [Bool.and_eq_true,decide_eq_true_eq] at h
    rw [← size_toL];exact h.1.1.2
theorem dig_free {l:List UInt8} (h:digB l = true):(10:UInt8) ∉ l ∧ (32:UInt8) ∉ l:=by
  unfold digB at h
  rw [List.all_eq_true] at h
  exact ⟨fun hx=>by have:=h _ hx;revert this;decide,fun hx=>by have:=h _ hx;revert this;decide⟩
theorem kd_free {s:ByteArray} (h:s = sFix ∨ s = sFol ∨ s = sMan):(10:UInt8) ∉ toL s ∧ (32:UInt8) ∉ toL s ∧ toL s ≠ [] ∧ (toL s).length ≤ 9:=by
  rcases h with h | h | h <;> subst h <;> decide
def lnW' (e:En):List (List UInt8):=(lineW e).map toL
def lnL (e:En):List UInt8:=Lib.join (lnW' e) [32]
theorem lineF_ln (e:En):toL (lineF e) = lnL e++[10]:=by
  unfold lineF
  rw [toL_append]
  rfl
theorem itoa_toL {n:Int} (h0:0 ≤ n) (h1:n ≤ 10000000):numB (toL (itoaB n)) = true ∧ intV (toL (itoaB n)) = n ∧ digB (toL (itoaB n)) = true ∧ (toL (itoaB n)).length ≤ 9:=by
  obtain ⟨m,rfl⟩:=Int.eq_ofNat_of_zero_le h0
  rw [itoaB_nat,toL_bsL]
  obtain ⟨h2,h3⟩:=num_dec (m:=m) (by omega)
  have:=numB_iff.1 h2
  exact ⟨h2,h3,this.2.1,this.2.2.1⟩
theorem lnW_free {e:En} (o:EnOk e):(∀ y ∈ lnW' e,(32:UInt8) ∉ y) ∧ (∀ y ∈ lnW' e,(10:UInt8) ∉ y):=by
  have a:=name_free o.nm
  have b:=name_free o.mt
  have c:=kd_free o.kd
  have d:=dig_free (itoa_toL o.tm.1 o.tm.2).2.2.1
  have f:=dig_free (itoa_toL (n:=e.ln) (by have:=o.ln;omega) (by have:=o.ln;omega)).2.2.1
  have g:=dig_free (itoa_toL (n:=e.ov) (by have:=o.ov;omega) (by have:=o.ov;omega)).2.2.1
  constructor
  · intro y hy
    unfold lnW' lineW at hy
    simp only [List.map_cons,List.map_nil,List.mem_cons,List.not_mem_nil,or_false] at hy
    rcases hy with rfl | rfl | rfl | rfl | rfl | rfl | rfl
    · decide
    · exact a.2.1
    · exact b.2.1
    · exact c.2.1
    · exact d.2
    · exact f.2
    · exact g.2
  · intro y hy
    unfold lnW' lineW at hy
    simp only [List.map_cons,List.map_nil,List.mem_cons,List.not_mem_nil,or_false] at hy
    rcases hy with rfl | rfl | rfl | rfl | rfl | rfl | rfl
    · decide
    · exact a.1
    · exact b.1
    · exact c.1
    · exact d.1
    · exact f.1
    · exact g.1
theorem join_free {c d:UInt8} (hd:¬ c = d):∀ (r:List (List UInt8)) (x:List UInt8),(∀ y ∈ x :: r,c ∉ y) → c ∉ Lib.join (x :: r) [d]
  | [],x,h=>by rw [Lib.join_one];exact h x (by simp)
  | y :: r, x, h => by
    rw [join_two]
    have h1:=join_free hd r y fun z hz=>h z (List.mem_cons_of_mem _ hz)
    have h2:=h x (by simp)
    intro hm
    rcases List.mem_append.1 hm with e | e
    · exact h2 e
    · rcases List.mem_cons.1 e with e | e
      · exact hd e
      · exact h1 e
theorem lnL_free {e:En} (o:EnOk e):(10:UInt8) ∉ lnL e:=join_free (by decide) _ _ (lnW_free o).2
theorem splL_lnL {e:En} (o:EnOk e):splL 32 (lnL e) = lnW' e:=splL_join _ _ (lnW_free o).1
theorem lnW_ok {e:En} (o:EnOk e):okW (lnW' e) = true ∧ entW (lnW' e) = e:=by
  have d:=itoa_toL o.tm.1 o.tm.2
  have f:=itoa_toL (n:=e.ln) (by have:=o.ln;omega) (by have:=o.ln;omega)
  have g:=itoa_toL (n:=e.ov) (by have:=o.ov;omega) (by have:=o.ov;omega)
  refine ⟨okW_iff.2 ⟨rfl,rfl,(name_free o.nm).2.2.1,(name_free o.mt).2.2.1,(kd_free o.kd).2.2.1,d.1,f.1,g.1⟩,?_⟩
  show En.mk (bsL (toL e.nm)) (bsL (toL e.mt)) (bsL (toL e.kd)) (intV (toL (itoaB e.tm))) (intV (toL (itoaB e.ln))) (intV (toL (itoaB e.ov))) = e
  rw [bsL_toL,bsL_toL,bsL_toL,d.2.1,f.2.1,g.2.1]
theorem lnL_len {e:En} (o:EnOk e):(lnL e).length ≤ 95:=by
  have h:=congrArg List.length (lineF_toL e)
  rw [lineF_ln] at h
  simp only [List.length_append,List.length_cons,List.length_nil] at h
  have a:=(name_free o.nm).2.2.2
  have b:=(name_free o.mt).2.2.2
  have c:=(kd_free o.kd).2.2.2
  have d:=(itoa_toL o.tm.1 o.tm.2).2.2.2
  have f:=(itoa_toL (n:=e.ln) (by have:=o.ln;omega) (by have:=o.ln;omega)).2.2.2
  have g:=(itoa_toL (n:=e.ov) (by have:=o.ov;omega) (by have:=o.ov;omega)).2.2.2
  omega
theorem prF_toL {es:List En} (h:chkF es = 0):toL (prF es) = ((es.map lnL).map (·++[10])).flatten:=by
  rw [prF,if_pos h]
  unfold joinB
  show toL (bsL _) = _
  rw [toL_bsL]
  show Lib.join _ [] = _
  rw [join_nil_sep,List.map_map,List.map_map]
  congr 1
theorem enL_get {l:List UInt8} {k i:Nat} (h:i < (enL l k).length):(enL l k)[i] = entW (lnW l i):=by simp [enL]
theorem en_mem {es:List En} (hs:Sound es) {e:En} (h:e ∈ es):EnOk e:=by
  obtain ⟨i,hi⟩:=List.mem_iff_getElem?.1 h
  obtain ⟨hl,e1⟩:=List.getElem?_eq_some_iff.1 hi
  have:=hs.all.ok i hl
  rwa [nth_eq hl,e1] at this
theorem pr_split {es:List En} (h:chkF es = 0):splL 10 (toL (prF es)) = es.map lnL++[[]]:=by
  rw [prF_toL h]
  refine splL_lines fun x hx=>?_
  obtain ⟨e,he,rfl⟩:=List.mem_map.1 hx
  exact lnL_free (en_mem (Sound.of h) he)
theorem flat_len {L:List (List UInt8)} {n:Nat} (h:∀ x ∈ L,x.length ≤ n):L.flatten.length ≤ L.length * n:=by
  induction L with
  | nil=>simp
  | cons x L ih =>
    have h1:=h x (by simp)
    have h2:=ih fun y hy=>h y (List.mem_cons_of_mem _ hy)
    rw [List.flatten_cons,List.length_append,List.length_cons,Nat.succ_mul]
    omega
theorem pr_len {es:List En} (h:chkF es = 0):(toL (prF es)).length ≤ 4096:=by
  have hs:=Sound.of h
  rw [prF_toL h]
  have:=flat_len (L:=(es.map lnL).map (·++[10])) (n:=96) fun x hx=>by
    obtain ⟨y,hy,rfl⟩:=List.mem_map.1 hx
    obtain ⟨e,he,rfl⟩:=List.mem_map.1 hy
    have:=lnL_len (en_mem hs he)
    rw [List.length_append,List.length_singleton];omega
  rw [List.length_map,List.length_map] at this
  have:=hs.all.few
  omega
theorem ln_get {es:List En} {t:List UInt8} {r:List (List UInt8)} (hs:Sound es) (h:splL 10 t = es.map lnL++r) {i:Nat} (hi:i < es.length):lnW t i = lnW' (nth es i):=by
  unfold lnW
  rw [h,List.getD_eq_getElem?_getD,List.getElem?_append_left (by rw [List.length_map];exact hi),List.getElem?_map,List.getElem?_eq_getElem hi]
  show splL 32 (lnL es[i]) = _
  rw [nth_eq hi]
  exact splL_lnL (en_mem hs (List.getElem_mem hi))
theorem pr_read {es:List En} (h:chkF es = 0):txE (toL (prF es)) = 0 ∧ txI (toL (prF es)) = 0 ∧ txL (toL (prF es)) = es ∧ (splL 10 (toL (prF es))).length = es.length + 1:=by
  have hs:=Sound.of h
  have hp:=pr_split h
  have hlen:(splL 10 (toL (prF es))).length = es.length + 1:=by rw [hp];simp
  have hn:nLn (toL (prF es)) = es.length:=by unfold nLn;rw [hlen];rfl
  have hlast:lastP (toL (prF es)) = []:=by unfold lastP;rw [hp,List.getLastD_eq_getLast?,List.getLast?_concat];rfl
  have hg:∀ i,i < nLn (toL (prF es)) → okW (lnW (toL (prF es)) i) = true:=fun i hi=>by
    rw [hn] at hi
    rw [ln_get hs hp hi]
    exact (lnW_ok (hs.all.ok i hi)).1
  have hen:enL (toL (prF es)) (nLn (toL (prF es))) = es:=by
    rw [hn]
    apply List.ext_getElem
    · rw [enL_length]
    · intro i h1 h2
      rw [enL_get,ln_get hs hp h2,← nth_eq h2]
      exact (lnW_ok (hs.all.ok i h2)).2
  obtain ⟨t1,t2,t3⟩:=tx_good (pr_len h) hg hlast
  rw [hen] at t1 t2 t3
  rw [h] at t1
  rw [if_pos h] at t2 t3
  exact ⟨t1,t2,t3,hlen⟩
theorem pr_cut {es:List En} (h:chkF es = 0) (hne:es ≠ []) {t:List UInt8} (ht:toL (prF es) = t++[10]):txE t = 25 ∧ txI t = (es.length:Int) - 1 ∧ txL t = []:=by
  have hs:=Sound.of h
  have hp:=pr_split h
  rw [ht,splL_snoc,if_pos rfl] at hp
  have hq:splL 10 t = es.map lnL:=List.append_cancel_right hp
  have hl:=pr_len h
  rw [ht,List.length_append,List.length_singleton] at hl
  have hpos:0 < es.length:=List.length_pos_iff.2 hne
  have hn:nLn t = es.length - 1:=by unfold nLn;rw [hq,List.length_map]
  have hlast:lastP t ≠ []:=by
    unfold lastP
    rw [hq,List.getLastD_eq_getLast?,List.getLast?_map,List.getLast?_eq_some_getLast hne]
    show lnL (es.getLast hne) ≠ []
    intro e
    have h1:=splL_lnL (en_mem hs (List.getLast_mem hne))
    rw [e] at h1
    have:1 = 7:=congrArg List.length h1
    exact absurd this (by decide)
  obtain ⟨t1,t2,t3⟩:=tx_bad (k:=es.length - 1) (by omega:t.length ≤ 4096) (fun i hi=>by
    rw [ln_get hs (r:=[]) (by rw [List.append_nil];exact hq) (by omega)]
    exact (lnW_ok (hs.all.ok i (by omega))).1) (.inr ⟨hn.symm,hlast⟩)
  exact ⟨t1,by rw [t2];omega,t3⟩
theorem pr_end {es:List En} (h:chkF es = 0) (hne:es ≠ []):∃ t,toL (prF es) = t++[10]:=by
  rw [prF_toL h,← List.dropLast_concat_getLast hne,List.map_append,List.map_append,List.flatten_append]
  simp only [List.map_cons,List.map_nil,List.flatten_singleton]
  rw [← List.append_assoc]
  exact ⟨_,rfl⟩
theorem pr_nil {es:List En} (h:chkF es = 0):prF es = ⟨#[]⟩ ↔ es = []:=by
  constructor
  · intro e
    apply Classical.byContradiction
    intro hne
    obtain ⟨t,ht⟩:=pr_end h hne
    rw [e] at ht
    have:=congrArg List.length ht
    rw [List.length_append,List.length_singleton] at this
    exact absurd this.symm (Nat.succ_ne_zero _)
  · intro e
    subst e
    rw [prF,if_pos h];rfl
theorem ok_lnL {w:List (List UInt8)} (h:okW w = true):lnW' (entW w) = w:=by
  have o:=okW_iff.1 h
  have hl:=o.len
  match w,hl,o with
  | [w0, w1, w2, w3, w4, w5, w6], _, o =>
    have e4:=itoa_num o.tm
    have e5:=itoa_num o.ln
    have e6:=itoa_num o.ov
    have e0:w0 = sEntry:=o.hd
    show [toL _,toL (bsL w1),toL (bsL w2),toL (bsL w3),toL (itoaB (intV w4)),toL (itoaB (intV w5)),toL (itoaB (intV w6))] = _
    rw [show itoaB (intV w4) = bsL w4 from e4,show itoaB (intV w5) = bsL w5 from e5,show itoaB (intV w6) = bsL w6 from e6,toL_bsL,toL_bsL,toL_bsL,toL_bsL,toL_bsL,toL_bsL,e0]
    rfl
theorem tx_print {s:ByteArray} (h:txE (toL s) = 0):chkF (txL (toL s)) = 0 ∧ prF (txL (toL s)) = s:=by
  have hL:txL (toL s) = enL (toL s) (nLn (toL s)):=by unfold txL;rw [if_pos h]
  have hh:=h
  unfold txE at hh
  split at hh
  · exact absurd hh (by decide)
  split at hh
  · exact absurd hh (by decide)
  rename_i h4 hg
  split at hh
  · exact absurd hh (by decide)
  rename_i hlast
  have hlast:lastP (toL s) = []:=Decidable.not_not.1 hlast
  have hgn:gdN (toL s) (nLn (toL s)) = nLn (toL s):=by have:=gdN_le (toL s) (nLn (toL s));omega
  have hok:=(gdN_at hgn).1
  rw [hL]
  refine ⟨hh,toL_inj ?_⟩
  rw [prF_toL hh]
  have hm:(enL (toL s) (nLn (toL s))).map lnL = (splL 10 (toL s)).dropLast:=by
    apply List.ext_getElem
    · rw [List.length_map,enL_length,nLn_eq]
    · intro i h1 h2
      rw [List.length_map,enL_length] at h1
      rw [List.getElem_map,List.getElem_dropLast,enL_get]
      unfold lnL
      rw [ok_lnL (hok i h1)]
      unfold lnW
      rw [join_splL,List.getD_eq_getElem?_getD,List.getElem?_eq_getElem (by unfold nLn at h1;omega)]
      rfl
  rw [hm,← flat_lines]
  have:=splL_last (toL s)
  rw [hlast] at this
  rw [this,join_splL]
end Go.Proofs.A1
namespace Go.Proofs.A1
open Go Go.SL
end Go.Proofs.A1
namespace Go.Proofs.A1
open Go Go.SL
theorem setCells_skip:∀ (vs:List Value) (A B:List Value) (o:Nat),setCells (A++B) (A.length + o) vs = A++setCells B o vs
  | [],_,_,_=>rfl
  | v :: vs, A, B, o => by
    rw [setCells,setCells,List.set_append_right _ _ (by omega),Nat.add_sub_cancel_left,Nat.add_assoc,setCells_skip vs]
theorem setCells_fore:∀ (vs:List Value) (A B:List Value) (o:Nat),o + vs.length ≤ A.length → setCells (A++B) o vs = setCells A o vs++B
  | [],_,_,_,_=>rfl
  | v :: vs, A, B, o, h => by
    simp only [List.length_cons] at h
    rw [setCells,setCells,List.set_append_left _ _ (by omega),setCells_fore vs _ _ _ (by simp;omega)]
theorem chg_flat1 (es:List En) (k:Nat) (l:List En):(ensL (chg es k (k + 1) l)).flatten = (ensL (es.take k)).flatten++((ensL l).flatten++(ensL (es.drop (k + 1))).flatten):=by
  simp [chg,ensL]
theorem es_flat1 {es:List En} {k:Nat} (h:k < es.length):(ensL es).flatten = (ensL (es.take k)).flatten++((nth es k).cells++(ensL (es.drop (k + 1))).flatten):=by
  conv=>lhs;rw [← List.take_append_drop k es,List.drop_eq_getElem_cons h]
  rw [nth_eq h,← List.drop_eq_getElem_cons h,ensL,List.map_append,List.flatten_append,List.drop_eq_getElem_cons h]
  rfl
end Go.Proofs.A1
namespace Go.Proofs.A1
open Go Go.SL
end Go.Proofs.A1
namespace Go.Proofs.A1
open Go Go.SL
theorem rk_nilCheck {P:Program} {c:Cx} {sl:Slots} {hs:List Asn} {dst:Option Tmp} {ty:TypeId} {pos:String} {af:Array Edge} {g:Option (Nat × Bool)} {x:Operand} {p:Addr} (hx:Is sl x (.pointer (some p))):RunV P c sl hs ⟨dst,.nilCheck x,ty,pos,af,g⟩ (.pointer (some p)):=
  ⟨by simp,fun a w ha _=>by simp [execOp,hx a ha]⟩
def stm (x:En) (t:Int):En:={ x with tm:=t }
def shx (by':Int) (x:En):En:=if x.kd = sFol then x else stm x (x.tm + by')
def shK (es:List En) (by':Int) (k:Nat):List En:=(es.take k).map (shx by')++es.drop k
theorem shK_len (es:List En) (by':Int) (k:Nat):(shK es by' k).length = es.length:=by
  unfold shK
  rw [List.length_append,List.length_map,List.length_take,List.length_drop];omega
theorem shK_nth {es:List En} {by':Int} {k:Nat} (h:k < es.length):nth (shK es by' k) k = nth es k:=by
  have hl:((es.take k).map (shx by')).length = k:=by rw [List.length_map,List.length_take];omega
  unfold nth shK
  rw [List.getD_eq_getElem?_getD,List.getD_eq_getElem?_getD,List.getElem?_append_right (by omega),hl,Nat.sub_self,List.getElem?_drop,Nat.add_zero]
theorem shK_succ {es:List En} {by':Int} {k:Nat} (h:k < es.length):shK es by' (k + 1) = chg (shK es by' k) k (k + 1) [shx by' (nth es k)]:=by
  have hl:((es.take k).map (shx by')).length = k:=by rw [List.length_map,List.length_take];omega
  have h1:(shK es by' k).take k = (es.take k).map (shx by'):=by unfold shK;rw [List.take_append_of_le_length (by omega),List.take_of_length_le (by omega)]
  have h2:(shK es by' k).drop (k + 1) = es.drop (k + 1):=by
    unfold shK
    rw [List.drop_append,List.drop_of_length_le (by omega),List.nil_append,hl,List.drop_drop]
    congr 1;omega
  unfold chg
  rw [h1,h2]
  unfold shK
  rw [List.take_succ_eq_append_getElem h,List.map_append,nth_eq h]
  simp
theorem shK_fol {es:List En} {by':Int} {k:Nat} (h:k < es.length) (hf:(nth es k).kd = sFol):shK es by' (k + 1) = shK es by' k:=by
  unfold shK
  rw [List.take_succ_eq_append_getElem h,List.map_append,List.drop_eq_getElem_cons h,nth_eq h] at *
  simp [shx,hf]
theorem shK_set {es:List En} {by':Int} {k:Nat} (h:k < es.length) (hf:¬ (nth es k).kd = sFol):shK es by' (k + 1) = chg (shK es by' k) k (k + 1) [stm (nth (shK es by' k) k) ((nth es k).tm + by')]:=by
  rw [shK_succ h,shK_nth h,shx,if_neg hf]
theorem shK_nth1 {es:List En} {by':Int} {k:Nat} (h:k < es.length):nth (shK es by' (k + 1)) k = shx by' (nth es k):=by
  have hl:((es.take k).map (shx by')).length = k:=by rw [List.length_map,List.length_take];omega
  unfold shK
  rw [List.take_succ_eq_append_getElem h,List.map_append,nth_eq h]
  unfold nth
  rw [List.getD_eq_getElem?_getD,List.append_assoc,List.getElem?_append_right (by omega),hl,Nat.sub_self];rfl
def shB (es:List En) (by':Int) (k:Nat):Bool:=!decide ((nth es k).kd = sFol) && (decide ((nth es k).tm + by' < 0) || decide (10000000 < (nth es k).tm + by'))
def sfQ (es:List En) (by':Int):Int:=if (List.range es.length).any (shB es by') then 3 else chkF (shK es by' es.length)
def sf0 (es:List En) (by':Int):Int:=firstF [chkF es,withinF by' (-10000000) 10000000]
def sfE (es:List En) (by':Int):Int:=if sf0 es by' ≠ 0 then sf0 es by' else sfQ es by'
def sfL (es:List En) (by':Int):List En:=if sfE es by' = 0 then shK es by' es.length else []
theorem sfQ_bad {es:List En} {by':Int} {k:Nat} (h:k < es.length) (hb:shB es by' k = true):sfQ es by' = 3:=by
  rw [sfQ,if_pos (List.any_eq_true.2 ⟨k,List.mem_range.2 h,hb⟩)]
theorem sfQ_ok {es:List En} {by':Int} (h:∀ i,i < es.length → shB es by' i = false):sfQ es by' = chkF (shK es by' es.length):=by
  rw [sfQ,if_neg]
  rw [Bool.not_eq_true,List.any_eq_false]
  intro i hi
  rw [h i (List.mem_range.1 hi)];decide
theorem stm_set {es:List En} {k:Nat} {cur:List Value} (t:Int) (h:k < es.length):setCells ((ensL es).flatten++cur) (k * 6 + 3) [.int .i64 t] = (ensL (chg es k (k + 1) [stm (nth es k) t])).flatten++cur:=by
  have hl:(ensL (es.take k)).flatten.length = k * 6:=by rw [ensL_flatlen,List.length_take];congr 1;omega
  rw [setCells_fore _ _ _ _ (by rw [ensL_flatlen];simp;omega),es_flat1 h,← hl,setCells_skip,setCells_fore _ _ _ _ (by show 3 + 1 ≤ 6;omega),chg_flat1]
  rfl
theorem chg_none (es:List En) (n:Nat):chg es n n [] = es:=by unfold chg;simp
theorem ens_at {es:List En} {k j:Nat} {cur:List Value} {u:Value} (h:k < es.length) (hu:(nth es k).cells[j]? = some u):((ensL es).flatten++cur)[k * 6 + j]? = some u:=by
  have hj:j < 6:=(List.getElem?_eq_some_iff.1 hu).1
  rw [List.getElem?_append_left (by rw [ensL_flatlen];omega)]
  exact flatten_get _ k (fun r hr=>ensL_sz es r hr) (ensL_get h) hu
theorem duo_at2 {l:List Value} {i:Nat} {u v:Value} (h0:l[i]? = some u) (h1:l[i + 1]? = some v):cellsAt l i 2 = [u,v]:=by
  rw [cellsAt_eq]
  obtain ⟨l0,g0⟩:=List.getElem?_eq_some_iff.1 h0
  obtain ⟨l1,g1⟩:=List.getElem?_eq_some_iff.1 h1
  rw [List.drop_eq_getElem_cons l0,List.drop_eq_getElem_cons l1]
  simp only [List.take_succ_cons,List.take_zero]
  rw [g0,g1]
set_option maxHeartbeats 2000000 in
theorem shiftedX_c {sv:Value} {es:List En} {by':Int} {w:World} (h1:Rd w sv 6 (ensL es)) (hG:Glob w) :
    Gives Tryz.prog 88 [.agg #[sv],.int .i64 by'] w [] (fun _:Value=>True) (fun v=>.tuple #[.agg #[v],.int .i64 (sfE es by')]) (fun v=>[row 138 6 v (sfL es by').length (ensL (sfL es by')).flatten]):=by
  have hone:=Rd.one h1
  have h1':=h1
  obtain ⟨a,cap,bb,o,rfl,hcap,hmax,ha,hc⟩:=h1'
  rw [ensL_length] at *
  unfold maxLen at hmax
  refine gives_of_tr Tryz.func88 rfl rfl ?_
  (refine s_r ?_;refine tr_new (rk_box (.of rfl) rfl) rfl (fun _ _=>?_);refine tr_new (rk_alloc rfl) rfl (fun _ _=>?_);refine a_s rfl rfl ?_;refine n_t ?_;refine tr_seq ?_;refine s_r ?_;refine tr_val (rk_loadB (.of rfl) (.there .here) norm_ (by rfl)) rfl ?_;refine tr_callV (rk_call (.of rfl) (.cons (.of rfl) .nil) inferInstance normc_) rfl (fun w' hm'=>(chk_c (Rd.keeps h1 (Mem.keeps hm')) (Glob.keeps hG (Mem.keeps hm')))) ?_;refine m_v rfl rfl ?_;refine tr_callV (rk_call (.of rfl) (.cons (.of rfl) (.cons (.of rfl) (.cons (.of rfl) .nil))) inferInstance normc_) rfl (fun w' hm'=>(within_c by' _ 10000000 w')) ?_;refine tr_new (rk_sliceLit (.cons (.of rfl) (.cons (.of rfl) .nil)) rfl rfl rfl rfl) rfl (fun _ _=>?_);refine tr_callV (rk_call (.of rfl) (.cons (.of rfl) .nil) inferInstance normc_) rfl (fun w' hm'=>(first_pB (Mem.rdBlk hm' .here rfl rfl) (IntL.cons (IntL.cons IntL.nil)))) ?_;refine a_s rfl rfl ?_;refine n_r ?_;refine m_v rfl rfl ?_;refine tr_val (rk_neq (.of rfl) (.of rfl)) rfl ?_;refine n_t ?_;refine c_d rfl (fun hcd=>?_) (fun hcd=>?_);refine s_r ?_;refine tr_val (rk_buildL .nil norm_) rfl ?_;refine m_v rfl rfl ?_;refine tr_store (.of rfl) (.of rfl) (.there .here) rfl rfl (okc_cons rfl okc_nil) (lenb rfl) norm_ ?_;refine a_s rfl rfl ?_;refine n_t ?_;refine r_t ?_;rotate_left;refine s_t ?_;refine s_r ?_;refine tr_val (rk_loadB (.of rfl) (.there (.there .here)) norm_ (by rfl)) rfl ?_;refine f_a rfl rfl norm0_ ?_;refine tr_val (rk_load1 (.of rfl) (At.lit (.there (.there .here)) rfl)) rfl ?_;refine tr_val (rk_len_slice (.of rfl)) rfl ?_;refine f_a rfl rfl norm0_ ?_;refine tr_val (rk_load1 (.of rfl) (At.lit (.there (.there .here)) rfl)) rfl ?_;refine tr_val (rk_len_slice (.of rfl)) rfl ?_;rotate_right)
  · have hne:sf0 es by' ≠ 0:=hcd
    have hE:sfE es by' = sf0 es by':=by rw [sfE,if_pos hne]
    have hL:sfL es by' = []:=by rw [sfL,if_neg (by rw [hE];exact hne)]
    rw [hE,hL]
    refine tr_rowNil 138 6 ?_
    first | with_reducible apply tr_retM | with_reducible apply tr_endM
    case he=>exact endsCT rfl inferInstance rfl (.there .here) norm_ (by rfl) (by rfl)
    case hR=>
      intro w' hm'
      exact gives_end (.slice none 0 0) trivial (show Takes _ [row 138 6 (.slice none 0 0) 0 []] _ by exact .cons .here .nil) hm' rfl
  have hz0:sf0 es by' = 0:=Decidable.not_not.1 hcd
  clear hcd
  have hz1:=hz0
  unfold sf0 at hz1
  rw [firstF_zero] at hz1
  simp only [List.mem_cons,List.not_mem_nil,or_false,forall_eq_or_imp,forall_eq,withinF_zero] at hz1
  obtain ⟨hzc,hby⟩:=hz1
  have hs:=Sound.of hzc
  have hEQ:sfE es by' = sfQ es by':=by rw [sfE,if_neg (by rw [hz0];decide)]
  have hLQ:sfL es by' = if sfQ es by' = 0 then shK es by' es.length else []:=by rw [sfL,hEQ]
  rw [hEQ,hLQ]
  rename_i b2 hb2 b4 hb4 bq hbq
  have hfew:=hs.all.few
  with_reducible apply tr_call
  case hr=>exact rk_call (.of rfl) (.cons (.of rfl) (.cons (.of rfl) (.cons (.of rfl) (.cons (.of rfl) .nil)))) inferInstance normc_
  case hd=>rfl
  case ht=>exact Takes.nil
  case hc=>
    intro w1 fp hm1 _ hs1
    obtain rfl:fp = []:=hs1
    have:=changed_c (l:=[]) (lv:=.slice none 0 0) (f:=es.length) (t:=es.length) (h1.keeps hm1.keeps) (Rd.nil w1 6) (Nat.le_refl _) (Nat.le_refl _) (by simp;omega)
    rw [chg_none] at this
    exact this
  intro v _
  dsimp only [id_eq,List.cons_append,List.nil_append]
  refine tr_rowSl (E:=138) (sz:=6) (v:=v) (by exact .here) fun va vc e=>?_
  subst e
  (refine tr_new (rk_alloc rfl) rfl (fun _ _=>?_);refine tr_store (.of rfl) (.of rfl) .here rfl rfl (okc_cons rfl okc_nil) (lenb rfl) norm_ ?_;refine n_t ?_;refine tr_seq ?_;refine s_r ?_;refine f_a rfl rfl norm0_ ?_;refine tr_val (rk_load1 (.of rfl) (At.lit .here rfl)) rfl ?_;refine tr_val (rk_len_slice (.of rfl)) rfl ?_;refine m_v rfl rfl ?_;refine n_t ?_;refine tr_block ?_)
  rename_i b7 hb7
  by_cases hn0:0 < es.length
  · refine tr_rowOpen (E:=138) (sz:=6) (by exact Take.there .here) hn0 fun g cap2 cur e hk2 hx2 hz2 hl2=>?_
    obtain ⟨rfl,-,rfl⟩:=Value.slice.inj e
    refine tr_for (ι:=Nat) (fun k=>k ≤ es.length ∧ ∀ i,i < k → shB es by' i = false) (fun k=>[(33,.int .i64 (k:Int)),(32,.int .i64 es.length),(7,.pointer (some ⟨b7,0,none⟩)),(1,.int .i64 by'),(4,.pointer (some ⟨b4,0,none⟩)),(5,.int .i64 0)]) (fun k=>[blk g (.cells ((ensL (shK es by' k)).flatten++cur).toArray 138),blk b7 (.cells #[.slice (some ⟨g,0,none⟩) es.length vc] 33),blk b4 (.cells #[.slice none 0 0] 33)]) (fun k=>es.length - k) ?_ ?_
    · apply tr_start (0:Nat) ⟨Nat.zero_le _,fun i h=>absurd h (Nat.not_lt_zero _)⟩
      case hs1=>exact .cons rfl (.cons rfl (.cons rfl (.cons rfl (.cons rfl (.cons rfl .nil)))))
      case ht=>
        show Takes _ [blk g (.cells ((ensL es).flatten++cur).toArray 138),blk b7 (.cells #[.slice (some ⟨g,0,none⟩) es.length vc] 33),blk b4 (.cells #[.slice none 0 0] 33)] _
        exact .cons .here (.cons .here (.cons (.there .here) .nil))
    rintro k ⟨hk,hf⟩
    by_cases hlt:k < es.length
    · have hkl:k < (shK es by' k).length:=by rw [shK_len];exact hlt
      have hok:=hs.all.ok k hlt
      have htm:=hok.tm
      have hfo:=hok.fol
      have c2:((ensL (shK es by' k)).flatten++cur)[k * 6 + 2]? = some (.string (nth es k).kd):=ens_at hkl (by rw [shK_nth hlt];rfl)
      have c3:((ensL (shK es by' k)).flatten++cur)[k * 6 + 3]? = some (.int .i64 (nth es k).tm):=ens_at hkl (by rw [shK_nth hlt];rfl)
      have c23:=duo_at2 c2 c3
      have hflat:(ensL (shK es by' k)).flatten.length = es.length * 6:=by rw [ensL_flatlen,shK_len]
      by_cases hfl:(nth es k).kd = sFol
      · have ht0:=hfo hfl
        have hsb:shB es by' k = false:=by unfold shB;rw [decide_eq_true hfl];rfl
        have hse:=shK_fol (by':=by') hlt hfl
        have hfw:∀ w',Keeps [] w w' → GivesV Tryz.prog 110 [.agg #[.string (nth es k).kd,.int .i64 (nth es k).tm]] w' (.bool true):=fun w' hk=>by
          have:=follows_c (nth es k).kd (nth es k).tm w' (hG.keeps hk)
          rwa [decide_eq_true hfl,decide_eq_true ht0] at this
        (refine s_r ?_;refine tr_val (rk_lss (.of rfl) (.of rfl)) rfl ?_;refine n_t ?_;refine tr_seq ?_;refine c_d rfl (fun hcd=>?_) (fun _=>by omega);refine s_t ?_;refine tr_seq ?_;refine tr_block ?_;refine s_r ?_;refine m_v rfl rfl ?_;refine a_s rfl rfl ?_;refine n_r ?_;refine f_a rfl rfl norm0_ ?_;refine tr_val (rk_load1 (.of rfl) (At.lit (.there .here) rfl)) rfl ?_;refine m_v rfl rfl ?_;refine tr_val (rk_indexAddr (.of rfl) (.of rfl) rfl (by omega) hcd norm1_) rfl ?_;refine a_s rfl rfl ?_;refine n_t ?_;refine tr_seq ?_;refine s_r ?_;refine m_v rfl rfl ?_;refine tr_val (rk_nilCheck (.of rfl)) rfl ?_;refine f_a rfl rfl norm0_ ?_;refine tr_val (rk_loadB (.of rfl) .here c23 rfl) rfl ?_;refine tr_callV (rk_call (.of rfl) (.cons (.of rfl) .nil) inferInstance normc_) rfl (fun w' hm'=>(hfw w' (Mem.keeps hm'))) ?_;refine n_t ?_;refine tr_cond_t (.of rfl) ?_;refine x_t ?_;refine tr_blk_exit ?_;refine tr_then ?_;refine tr_region ?_;refine tr_val (rk_add (.of rfl) (.of rfl) (ini (by omega))) rfl ?_;refine m_v rfl rfl ?_;refine n_t ?_)
        rw [← hse]
        apply tr_next (k + 1) ⟨(show k + 1 ≤ es.length from hlt),fun i hi=>by
          by_cases e:i = k
          · rw [e];exact hsb
          · exact hf i (by omega)⟩ (show es.length - (k + 1) < es.length - k by omega)
        case hs1=>exact .cons rfl (.cons rfl (.cons rfl (.cons rfl (.cons rfl (.cons rfl .nil)))))
        case ht=>exact .cons .here (.cons .here (.cons .here .nil))
      have hsE:=shK_set (by':=by') hlt hfl
      rw [shK_nth hlt] at hsE
      have hst:=stm_set (es:=shK es by' k) (cur:=cur) ((nth es k).tm + by') hkl
      rw [shK_nth hlt,← hsE] at hst
      have d3:((ensL (shK es by' (k + 1))).flatten++cur)[k * 6 + 3]? = some (.int .i64 ((nth es k).tm + by')):=ens_at (by rw [shK_len];exact hlt) (by rw [shK_nth1 hlt,shx,if_neg hfl];rfl)
      have hsl:k * 6 + 3 + 1 ≤ ((ensL (shK es by' k)).flatten++cur).length:=by rw [List.length_append,hflat];omega
      have hfw:∀ w',Keeps [] w w' → GivesV Tryz.prog 110 [.agg #[.string (nth es k).kd,.int .i64 (nth es k).tm]] w' (.bool false):=fun w' hk=>by
        have:=follows_c (nth es k).kd (nth es k).tm w' (hG.keeps hk)
        rwa [decide_eq_false hfl] at this
      (refine s_r ?_;refine tr_val (rk_lss (.of rfl) (.of rfl)) rfl ?_;refine n_t ?_;refine tr_seq ?_;refine c_d rfl (fun hcd=>?_) (fun _=>by omega);refine s_t ?_;refine tr_seq ?_;refine tr_block ?_;refine s_r ?_;refine m_v rfl rfl ?_;refine a_s rfl rfl ?_;refine n_r ?_;refine f_a rfl rfl norm0_ ?_;refine tr_val (rk_load1 (.of rfl) (At.lit (.there .here) rfl)) rfl ?_;refine m_v rfl rfl ?_;refine tr_val (rk_indexAddr (.of rfl) (.of rfl) rfl (by omega) hcd norm1_) rfl ?_;refine a_s rfl rfl ?_;refine n_t ?_;refine tr_seq ?_;refine s_r ?_;refine m_v rfl rfl ?_;refine tr_val (rk_nilCheck (.of rfl)) rfl ?_;refine f_a rfl rfl norm0_ ?_;refine tr_val (rk_loadB (.of rfl) .here c23 rfl) rfl ?_;refine tr_callV (rk_call (.of rfl) (.cons (.of rfl) .nil) inferInstance normc_) rfl (fun w' hm'=>(hfw w' (Mem.keeps hm'))) ?_;refine n_t ?_;refine tr_cond_f (.of rfl) ?_;refine s_t ?_;refine s_r ?_;refine m_v rfl rfl ?_;refine tr_val (rk_nilCheck (.of rfl)) rfl ?_;refine f_a rfl rfl norm0_ ?_;refine f_a rfl rfl norm0_ ?_;refine tr_val (rk_load1 (.of rfl) (At.blkL .here c3)) rfl ?_;refine m_v rfl rfl ?_;refine tr_val (rk_add (.of rfl) (.of rfl) (ini (by omega))) rfl ?_;refine tr_val (rk_nilCheck (.of rfl)) rfl ?_;refine f_a rfl rfl norm0_ ?_;refine f_a rfl rfl norm0_ ?_;refine tr_store (.of rfl) (.of rfl) .here rfl rfl (okc_cons rfl okc_nil) hsl hst ?_;refine n_r ?_;refine m_v rfl rfl ?_;refine tr_val (rk_nilCheck (.of rfl)) rfl ?_;refine f_a rfl rfl norm0_ ?_;refine f_a rfl rfl norm0_ ?_;refine tr_val (rk_load1 (.of rfl) (At.blkL .here d3)) rfl ?_;refine tr_callV (rk_call (.of rfl) (.cons (.of rfl) .nil) inferInstance normc_) rfl (fun w' hm'=>(frame_c _ w')) ?_;refine a_s rfl rfl ?_;refine n_r ?_;refine m_v rfl rfl ?_;refine tr_val (rk_neq (.of rfl) (.of rfl)) rfl ?_;refine n_t ?_;refine c_d rfl (fun hcd=>?_) (fun hcd=>?_);refine s_r ?_;refine tr_val (rk_buildL .nil norm_) rfl ?_;refine m_v rfl rfl ?_;refine tr_store (.of rfl) (.of rfl) (.there (.there .here)) rfl rfl (okc_cons rfl okc_nil) (lenb rfl) norm_ ?_;refine a_s rfl rfl ?_;refine n_t ?_;refine tr_ret ?_;refine tr_blk_ret ?_;refine tr_then_ret ?_;refine tr_then_ret ?_;refine tr_blk_ret ?_;refine tr_then_ret ?_;rotate_left;refine tr_skip ?_;refine tr_blk_normal ?_;refine tr_then ?_;refine tr_region ?_;refine tr_val (rk_add (.of rfl) (.of rfl) (ini (by omega))) rfl ?_;refine m_v rfl rfl ?_;refine n_t ?_;rotate_right)
      · have h3:sfQ es by' = withinF ((nth es k).tm + by') 0 10000000:=by
          have hr:¬ (0 ≤ (nth es k).tm + by' ∧ (nth es k).tm + by' ≤ 10000000):=fun h=>hcd (withinF_zero.2 h)
          have hbad:(decide ((nth es k).tm + by' < 0) || decide (10000000 < (nth es k).tm + by')) = true:=by
            rw [Bool.or_eq_true,decide_eq_true_eq,decide_eq_true_eq];omega
          rw [sfQ_bad hlt (by unfold shB;rw [decide_eq_false hfl,hbad];rfl),withinF,hbad];rfl
        rw [h3,if_neg hcd]
        refine tr_rowNil 138 6 ?_
        first | with_reducible apply tr_retM | with_reducible apply tr_endM
        case he=>exact endsCT rfl inferInstance rfl (.there .here) norm_ (by rfl) (by rfl)
        case hR=>
          intro w' hm'
          exact gives_end (.slice none 0 0) trivial (show Takes _ [row 138 6 (.slice none 0 0) 0 []] _ by exact .cons .here .nil) hm' rfl
      have hz:withinF ((nth es k).tm + by') 0 10000000 = 0:=Decidable.not_not.1 hcd
      have hzi:=withinF_zero.1 hz
      have hsb:shB es by' k = false:=by
        unfold shB
        rw [decide_eq_false (p:=(nth es k).tm + by' < 0) (by omega),decide_eq_false (p:=10000000 < (nth es k).tm + by') (by omega)];simp
      clear hcd
      apply tr_next (k + 1) ⟨(show k + 1 ≤ es.length from hlt),fun i hi=>by
        by_cases e:i = k
        · rw [e];exact hsb
        · exact hf i (by omega)⟩ (show es.length - (k + 1) < es.length - k by omega)
      case hs1=>exact .cons rfl (.cons rfl (.cons rfl (.cons rfl (.cons rfl (.cons rfl .nil)))))
      case ht=>exact .cons .here (.cons .here (.cons .here .nil))
    obtain rfl:k = es.length:=by omega
    have hQ:=sfQ_ok hf
    refine tr_rowShut (E:=138) (sz:=6) (g:=g) (n:=es.length) (cap:=vc) (xs:=(ensL (shK es by' es.length)).flatten) (cur:=cur) (by exact .here) hk2 hx2 (by rw [List.length_append,ensL_flatlen,shK_len,← ensL_flatlen,← List.length_append];exact hz2) (by rw [ensL_flatlen,shK_len]) ?_
    (refine s_r ?_;refine tr_val (rk_lss (.of rfl) (.of rfl)) rfl ?_;refine n_t ?_;refine tr_seq ?_;refine c_d rfl (fun _=>by omega) (fun hcd=>?_);refine x_t ?_;refine tr_then_exit ?_;refine tr_blk_exit ?_;refine tr_then ?_;refine tr_seq ?_;refine s_r ?_;refine tr_val (rk_loadB (.of rfl) (.there .here) norm_ (by rfl)) rfl ?_)
    with_reducible apply tr_callV
    case hr=>exact rk_call (.of rfl) (.cons (.of rfl) .nil) inferInstance normc_
    case hd=>rfl
    case hc=>
      intro w' hm'
      exact chk_c (es:=shK es by' es.length) (rdEnF (v:=.slice (some ⟨g,0,none⟩) es.length vc) hm' (by exact .here) (shK_len es by' es.length)) (hG.keeps hm'.keeps)
    rw [← hQ]
    by_cases hzz:sfQ es by' = 0
    · rw [if_pos hzz,hzz,shK_len]
      (refine a_s rfl rfl ?_;refine n_r ?_;refine m_v rfl rfl ?_;refine tr_val (rk_neq (.of rfl) (.of rfl)) rfl ?_;refine n_t ?_;refine c_d rfl (fun _=>by omega) (fun hcd=>?_);refine s_t ?_;refine s_r ?_;refine tr_val (rk_loadB (.of rfl) (.there .here) norm_ (by rfl)) rfl ?_;refine tr_store (.of rfl) (.of rfl) (.there (.there .here)) rfl rfl (okc_cons rfl okc_nil) (lenb rfl) norm_ ?_;refine a_s rfl rfl ?_;refine n_t ?_;refine tr_ret ?_)
      first | with_reducible apply tr_retM | with_reducible apply tr_endM
      case he=>exact endsCT rfl inferInstance rfl .here norm_ (by rfl) (by rfl)
      case hR=>
        intro w' hm'
        exact gives_end (.slice (some ⟨g,0,none⟩) es.length vc) trivial (show Takes _ [row 138 6 (.slice (some ⟨g,0,none⟩) es.length vc) es.length (ensL (shK es by' es.length)).flatten] _ by exact .cons (.there .here) .nil) hm' rfl
    rw [if_neg hzz]
    (refine a_s rfl rfl ?_;refine n_r ?_;refine m_v rfl rfl ?_;refine tr_val (rk_neq (.of rfl) (.of rfl)) rfl ?_;refine n_t ?_;refine c_d rfl (fun hcd=>?_) (fun _=>by omega);refine s_r ?_;refine tr_val (rk_buildL .nil norm_) rfl ?_;refine m_v rfl rfl ?_;refine tr_store (.of rfl) (.of rfl) (.there (.there .here)) rfl rfl (okc_cons rfl okc_nil) (lenb rfl) norm_ ?_;refine a_s rfl rfl ?_;refine n_t ?_;refine r_t ?_)
    refine tr_rowNil 138 6 ?_
    first | with_reducible apply tr_retM | with_reducible apply tr_endM
    case he=>exact endsCT rfl inferInstance rfl (.there .here) norm_ (by rfl) (by rfl)
    case hR=>
      intro w' hm'
      exact gives_end (.slice none 0 0) trivial (show Takes _ [row 138 6 (.slice none 0 0) 0 []] _ by exact .cons .here .nil) hm' rfl
  have e0:es.length = 0:=by omega
  have hnil:es = []:=List.eq_nil_of_length_eq_zero e0
  have hQ:=sfQ_ok (es:=es) (by':=by') fun i hi=>by omega
  have hsk:shK es by' es.length = es:=by rw [hnil];rfl
  rw [hsk] at hQ ⊢
  refine tr_for (ι:=Unit) (fun _=>True) (fun _=>[(33,.int .i64 0),(32,.int .i64 es.length),(7,.pointer (some ⟨b7,0,none⟩)),(1,.int .i64 by'),(4,.pointer (some ⟨b4,0,none⟩)),(5,.int .i64 0)]) (fun _=>[blk b7 (.cells #[.slice va es.length vc] 33),blk b4 (.cells #[.slice none 0 0] 33),row 138 6 (.slice va es.length vc) es.length (ensL es).flatten]) (fun _=>0) ?_ ?_
  · apply tr_start () trivial
    case hs1=>exact .cons rfl (.cons rfl (.cons rfl (.cons rfl (.cons rfl (.cons rfl .nil)))))
    case ht=>exact .cons .here (.cons (.there (.there .here)) (.cons .here .nil))
  rintro ⟨⟩ _
  (refine s_r ?_;refine tr_val (rk_lss (.of rfl) (.of rfl)) rfl ?_;refine n_t ?_;refine tr_seq ?_;refine c_d rfl (fun _=>by omega) (fun hcd=>?_);refine x_t ?_;refine tr_then_exit ?_;refine tr_blk_exit ?_;refine tr_then ?_;refine tr_seq ?_;refine s_r ?_;refine tr_val (rk_loadB (.of rfl) .here norm_ (by rfl)) rfl ?_)
  with_reducible apply tr_callV
  case hr=>exact rk_call (.of rfl) (.cons (.of rfl) .nil) inferInstance normc_
  case hd=>rfl
  case hc=>
    intro w' hm'
    exact chk_c (es:=es) (rdEnF (v:=.slice va es.length vc) hm' (by exact Take.there (.there .here)) rfl) (hG.keeps hm'.keeps)
  rw [← hQ]
  by_cases hzz:sfQ es by' = 0
  · rw [if_pos hzz,hzz]
    (refine a_s rfl rfl ?_;refine n_r ?_;refine m_v rfl rfl ?_;refine tr_val (rk_neq (.of rfl) (.of rfl)) rfl ?_;refine n_t ?_;refine c_d rfl (fun _=>by omega) (fun hcd=>?_);refine s_t ?_;refine s_r ?_;refine tr_val (rk_loadB (.of rfl) .here norm_ (by rfl)) rfl ?_;refine tr_store (.of rfl) (.of rfl) (.there .here) rfl rfl (okc_cons rfl okc_nil) (lenb rfl) norm_ ?_;refine a_s rfl rfl ?_;refine n_t ?_;refine tr_ret ?_)
    first | with_reducible apply tr_retM | with_reducible apply tr_endM
    case he=>exact endsCT rfl inferInstance rfl .here norm_ (by rfl) (by rfl)
    case hR=>
      intro w' hm'
      exact gives_end (.slice va es.length vc) trivial (show Takes _ [row 138 6 (.slice va es.length vc) es.length (ensL (es)).flatten] _ by exact .cons (.there (.there .here)) .nil) hm' rfl
  exact absurd (hQ.trans hzc) hzz
end Go.Proofs.A1
namespace Go.Proofs.A1
open Go Go.SL
theorem shx_back (n:Int) (x:En):shx (-n) (shx n x) = x:=by
  unfold shx
  by_cases h:x.kd = sFol
  · rw [if_pos h,if_pos h]
  · rw [if_neg h,if_neg (show ¬ (stm x (x.tm + n)).kd = sFol from h)]
    show stm (stm x (x.tm + n)) (x.tm + n + -n) = x
    rw [show x.tm + n + -n = x.tm by omega]
    rfl
theorem shK_full (es:List En) (n:Int):shK es n es.length = es.map (shx n):=by
  unfold shK;rw [List.take_length,List.drop_length,List.append_nil]
theorem shK_back (es:List En) (n:Int):shK (shK es n es.length) (-n) (shK es n es.length).length = es:=by
  rw [shK_full,shK_full,List.map_map]
  conv=>rhs;rw [← List.map_id es]
  exact List.map_congr_left fun x _=>shx_back n x
theorem nth_shK {es:List En} {n:Int} {k:Nat} (h:k < es.length):nth (shK es n es.length) k = shx n (nth es k):=by
  rw [shK_full];unfold nth;simp [List.getD_eq_getElem?_getD,h]
theorem shx_same (n:Int) (x:En):(shx n x).nm = x.nm ∧ (shx n x).mt = x.mt ∧ (shx n x).kd = x.kd ∧ (shx n x).ln = x.ln ∧ (shx n x).ov = x.ov:=by
  unfold shx;split <;> exact ⟨rfl,rfl,rfl,rfl,rfl⟩
theorem shx_tm (n:Int) (x:En):(shx n x).tm = if x.kd = sFol then x.tm else x.tm + n:=by
  unfold shx;split <;> rfl
theorem shB_no {es:List En} {n:Int} {k:Nat} (h:shB es n k = false):(nth es k).kd = sFol ∨ (0 ≤ (nth es k).tm + n ∧ (nth es k).tm + n ≤ 10000000):=by
  unfold shB at h
  rw [Bool.and_eq_false_iff] at h
  rcases h with h | h
  · left;simpa using h
  · right
    rw [Bool.or_eq_false_iff,decide_eq_false_iff_not,decide_eq_false_iff_not] at h
    omega
theorem fr_shK {es:List En} {n:Int} (hs:Sound es) (hb:∀ i,i < es.length → shB es n i = false):∀ k,k < es.length → fr (shK es n es.length) k = fr es k + n
  | 0, h => by
    have h1:=shx_same n (nth es 0)
    have hf:=hs.fol h
    have hb0:=shB_no (hb 0 h)
    have ht:=(hs.all.ok 0 h).tm
    unfold fr
    rw [nth_shK h,h1.2.2.1,shx_tm,if_neg hf]
    show frm _ _ 0 = frm _ _ 0 + n
    unfold frm
    rw [if_neg hf,if_neg hf]
    split
    · rcases hb0 with e | e
      · exact absurd e hf
      · omega
    · rfl
  | k + 1, h => by
    have ih:=fr_shK hs hb k (by omega)
    have h1:=shx_same n (nth es (k + 1))
    have h0:=shx_same n (nth es k)
    have hj:jn (shK es n es.length) (k + 1) = jn es (k + 1) + n:=by
      rw [jn_succ,jn_succ,to,to,ih,nth_shK (by omega:k < es.length),h0.2.2.2.1,h0.2.2.2.2]
      omega
    unfold fr
    rw [hj,nth_shK h,h1.2.2.1,shx_tm]
    unfold frm
    by_cases hf:(nth es (k + 1)).kd = sFol
    · rw [if_pos hf,if_pos hf]
    · rw [if_neg hf,if_neg hf,if_neg hf]
      split <;> omega
theorem to_shK {es:List En} {n:Int} (hs:Sound es) (hb:∀ i,i < es.length → shB es n i = false) {k:Nat} (h:k < es.length):to (shK es n es.length) k = to es k + n:=by
  rw [to,to,fr_shK hs hb k h,nth_shK h,(shx_same n _).2.2.2.1]
  omega
theorem ov_shK {es:List En} {n:Int} {k:Nat} (h:k < es.length):(nth (shK es n es.length) k).ov = (nth es k).ov:=by
  rw [nth_shK h];exact (shx_same n _).2.2.2.2
theorem bad_shK {es:List En} {n:Int} (hs:Sound es) (hb:∀ i,i < es.length → shB es n i = false) {k:Nat} (h:k < es.length):badAt (shK es n es.length) k = false:=by
  rw [← hs.bad k h]
  unfold badAt
  rw [fr_shK hs hb k h,to_shK hs hb h,fr_shK hs hb (k - 1) (by omega),to_shK hs hb (by omega:k - 1 < es.length),to_shK hs hb (by omega:k - 2 < es.length),ov_shK (by omega:k - 1 < es.length)]
  congr 1
  congr 1
  · congr 1
    · congr 1
      · exact decide_eq_decide.2 (by omega)
      · exact decide_eq_decide.2 (by omega)
    · congr 1
      exact decide_eq_decide.2 (by omega)
  · exact decide_eq_decide.2 (by omega)
theorem dup_shK {es:List En} {n:Int} {k:Nat} (h:k < es.length):dup (shK es n es.length) k = dup es k:=by
  rw [Bool.eq_iff_iff]
  unfold dup
  rw [List.any_eq_true,List.any_eq_true]
  constructor
  · rintro ⟨i,hi,e⟩
    have hi':=List.mem_range.1 hi
    rw [nth_shK h,nth_shK (by omega:i < es.length),(shx_same n _).1,(shx_same n _).1] at e
    exact ⟨i,hi,e⟩
  · rintro ⟨i,hi,e⟩
    have hi':=List.mem_range.1 hi
    refine ⟨i,hi,?_⟩
    rw [nth_shK h,nth_shK (by omega:i < es.length),(shx_same n _).1,(shx_same n _).1]
    exact e
theorem firstE_in {f:Nat → Int} {c:Int}:∀ {m k:Nat},(∀ i,k ≤ i → i < k + m → f i = 0 ∨ f i = c) → firstE f k m = 0 ∨ firstE f k m = c
  | 0,k,_=>.inl rfl
  | m + 1, k, h => by
    unfold firstE
    split
    · rcases h k (Nat.le_refl _) (by omega) with e | e
      · exact .inl e
      · exact .inr e
    · exact firstE_in fun i h1 h2=>h i (by omega) (by omega)
theorem chk_shK {es:List En} {n:Int} (hs:Sound es) (hb:∀ i,i < es.length → shB es n i = false):chkF (shK es n es.length) = 0 ∨ chkF (shK es n es.length) = 4:=by
  have hl:=shK_len es n es.length
  have hf:=hs.all.few
  unfold chkF
  rw [hl,if_neg (by omega)]
  have h1:errE (e1At (shK es n es.length)) es.length = 0:=by
    rw [errE_ok]
    intro i hi
    unfold e1At
    rw [firstF_zero]
    simp only [List.mem_cons,List.not_mem_nil,or_false,forall_eq_or_imp,forall_eq]
    have o:=hs.all.ok i hi
    have sm:=shx_same n (nth es i)
    refine ⟨?_,?_,?_⟩
    · rw [nth_shK hi]
      refine entF_ok.2 ⟨?_,?_,?_,?_,?_,?_,?_,?_⟩
      · rw [sm.1];exact o.nm
      · rw [sm.2.1];exact o.mt
      · rw [sm.2.2.1];exact o.kd
      · rw [shx_tm]
        split
        · exact o.tm
        · rename_i hk
          rcases shB_no (hb i hi) with e | e
          · exact absurd e hk
          · exact e
      · rw [sm.2.2.1,shx_tm]
        intro e
        rw [if_pos e];exact o.fol e
      · rw [sm.2.2.2.1];exact o.ln
      · rw [sm.2.2.2.2];exact o.ov
      · rw [sm.2.2.2.1,sm.2.2.2.2];exact o.lt
    · rw [dup_shK hi,hs.dup i hi];rfl
    · rw [whenF_zero (by decide),Bool.and_eq_false_iff,decide_eq_false_iff_not,decide_eq_false_iff_not]
      by_cases e:i = 0
      · subst e
        right
        rw [nth_shK hi,sm.2.2.1]
        exact hs.fol hi
      · exact .inl e
  have h2:errE (e2At (shK es n es.length)) es.length = 0 ∨ errE (e2At (shK es n es.length)) es.length = 4:=firstE_in fun i _ hi=>by
    unfold e2At
    rw [bad_shK hs hb (by omega)]
    unfold whenF firstF firstF firstF
    cases decide (10000000 < to (shK es n es.length) i) <;> simp
  rw [h1]
  show firstF [_,_] = 0 ∨ firstF [_,_] = 4
  unfold firstF firstF firstF
  rcases h2 with h2 | h2 <;> rw [h2] <;> simp
theorem sf_code {es:List En} {n:Int} (hz:chkF es = 0) (hn:-10000000 ≤ n ∧ n ≤ 10000000):sfE es n = 0 ∨ sfE es n = 3 ∨ sfE es n = 4:=by
  have h0:sf0 es n = 0:=by
    unfold sf0
    rw [firstF_zero]
    simp only [List.mem_cons,List.not_mem_nil,or_false,forall_eq_or_imp,forall_eq,withinF_zero]
    exact ⟨hz,hn⟩
  rw [sfE,if_neg (by rw [h0];decide)]
  by_cases hb:∀ i,i < es.length → shB es n i = false
  · rw [sfQ_ok hb]
    rcases chk_shK (Sound.of hz) hb with h | h
    · exact .inl h
    · exact .inr (.inr h)
  · right;left
    have:∃ i,i < es.length ∧ shB es n i = true:=by
      apply Classical.byContradiction
      intro hc
      apply hb
      intro i hi
      cases e:shB es n i with
      | false=>rfl
      | true=>exact absurd ⟨i,hi,e⟩ hc
    obtain ⟨i,hi,e⟩:=this
    exact sfQ_bad hi e
theorem sf_back {es:List En} {n:Int} (hz:chkF es = 0) (hn:-10000000 ≤ n ∧ n ≤ 10000000) (h:sfE es n = 0):chkF (sfL es n) = 0 ∧ sfE (sfL es n) (-n) = 0 ∧ sfL (sfL es n) (-n) = es ∧ (sfL es n).length = es.length ∧ ∀ i,i < es.length → fr (sfL es n) i = fr es i + n ∧ to (sfL es n) i = to es i + n:=by
  have hs:=Sound.of hz
  have h0:sf0 es n = 0:=by
    unfold sf0
    rw [firstF_zero]
    simp only [List.mem_cons,List.not_mem_nil,or_false,forall_eq_or_imp,forall_eq,withinF_zero]
    exact ⟨hz,hn⟩
  have hL:sfL es n = shK es n es.length:=by rw [sfL,if_pos h]
  have hq:sfQ es n = 0:=by rwa [sfE,if_neg (by rw [h0];decide)] at h
  have hb:∀ i,i < es.length → shB es n i = false:=fun i hi=>by
    cases e:shB es n i with
    | false=>rfl
    | true=>rw [sfQ_bad hi e] at hq;cases hq
  have hc:chkF (shK es n es.length) = 0:=by rw [← sfQ_ok hb];exact hq
  have hl:=shK_len es n es.length
  rw [hL]
  have hb2:∀ i,i < (shK es n es.length).length → shB (shK es n es.length) (-n) i = false:=fun i hi=>by
    rw [hl] at hi
    unfold shB
    rw [nth_shK hi,(shx_same n _).2.2.1,shx_tm]
    by_cases hk:(nth es i).kd = sFol
    · rw [decide_eq_true hk];rfl
    · rw [if_neg hk]
      have:=(hs.all.ok i hi).tm
      rw [decide_eq_false (by omega:¬ (nth es i).tm + n + -n < 0),decide_eq_false (by omega:¬ 10000000 < (nth es i).tm + n + -n)]
      simp
  have h2:sfE (shK es n es.length) (-n) = 0:=by
    have h02:sf0 (shK es n es.length) (-n) = 0:=by
      unfold sf0
      rw [firstF_zero]
      simp only [List.mem_cons,List.not_mem_nil,or_false,forall_eq_or_imp,forall_eq,withinF_zero]
      exact ⟨hc,by omega⟩
    rw [sfE,if_neg (by rw [h02];decide),sfQ_ok hb2,shK_back]
    exact hz
  refine ⟨hc,h2,?_,hl,fun i hi=>⟨fr_shK hs hb i hi,to_shK hs hb hi⟩⟩
  rw [sfL,if_pos h2,shK_back]
end Go.Proofs.A1
namespace Go.Proofs.A1
open Go Go.SL
theorem low_eq {a b:Int} (ha:0 < a) (hb:0 < b):∃ g,0 < g ∧ a = (lowF a b).1 * g ∧ b = (lowF a b).2 * g:=by
  obtain ⟨m,rfl⟩:=Int.eq_ofNat_of_zero_le (Int.le_of_lt ha)
  obtain ⟨n,rfl⟩:=Int.eq_ofNat_of_zero_le (Int.le_of_lt hb)
  refine ⟨gcdF m n,(gcdF_pos hb).1,?_,?_⟩
  · unfold lowF gcdF
    simp only [Int.toNat_natCast]
    exact (Int.ediv_mul_cancel (Int.natCast_dvd_natCast.2 (Nat.gcd_dvd_left m n))).symm
  · unfold lowF gcdF
    simp only [Int.toNat_natCast]
    exact (Int.ediv_mul_cancel (Int.natCast_dvd_natCast.2 (Nat.gcd_dvd_right m n))).symm
theorem low_in {a b:Int} (ha:0 < a) (hab:a ≤ b):1 ≤ (lowF a b).1 ∧ (lowF a b).1 ≤ (lowF a b).2 ∧ (lowF a b).2 ≤ b:=by
  obtain ⟨g,hg,h1,h2⟩:=low_eq ha (show 0 < b by omega)
  generalize (lowF a b).1 = x at h1 h2 ⊢
  generalize (lowF a b).2 = y at h2 ⊢
  have hx:0 < x:=by
    apply Classical.byContradiction
    intro hn
    have:x * g ≤ 0:=Int.mul_nonpos_of_nonpos_of_nonneg (by omega) (by omega)
    omega
  have hxy:x ≤ y:=by
    apply Classical.byContradiction
    intro hn
    have:y * g < x * g:=Int.mul_lt_mul_of_pos_right (by omega) hg
    omega
  refine ⟨by omega,hxy,?_⟩
  have:y * 1 ≤ y * g:=Int.mul_le_mul_of_nonneg_left (by omega) (by omega)
  omega
theorem low_sum {a b c:Int} (ha:0 < a) (hb:0 < b) (hc:a + b = c):(lowF a c).1 * (lowF b c).2 + (lowF b c).1 * (lowF a c).2 = (lowF a c).2 * (lowF b c).2:=by
  obtain ⟨g,hg,h1,h2⟩:=low_eq ha (show 0 < c by omega)
  obtain ⟨k,hk,h3,h4⟩:=low_eq hb (show 0 < c by omega)
  generalize (lowF a c).1 = n1 at *
  generalize (lowF a c).2 = d1 at *
  generalize (lowF b c).1 = n2 at *
  generalize (lowF b c).2 = d2 at *
  have hgk:g * k ≠ 0:=Int.mul_ne_zero (by omega) (by omega)
  apply Int.eq_of_mul_eq_mul_right hgk
  have e1 : n1 * d2 * (g * k) = a * c := by rw [h1]; conv => rhs; rw [h4]
                                            simp only [Int.mul_assoc,Int.mul_left_comm,Int.mul_comm]
  have e2 : n2 * d1 * (g * k) = b * c := by rw [h3]; conv => rhs; rw [h2]
                                            simp only [Int.mul_assoc,Int.mul_left_comm,Int.mul_comm]
  have e3 : d1 * d2 * (g * k) = c * c := by conv => rhs; rw [h2]
                                            conv=>rhs;arg 2;rw [← h2,h4]
                                            simp only [Int.mul_assoc,Int.mul_left_comm,Int.mul_comm]
  rw [Int.add_mul,e1,e2,e3,← hc,Int.add_mul]
theorem Sound.over {es:List En} (h:Sound es) {k:Nat} (hk:k + 1 < es.length):to es k - fr es (k + 1) ≤ 250:=by
  have h1:=(h.next hk).1
  rw [jn_succ] at h1
  have:=(h.all.ok k (by omega)).ov
  omega
theorem Sound.air {es:List En} (h:Sound es) (f:Int):shF es f = [] ∨ (∃ i:Nat,i < es.length ∧ onB es f i = true ∧ shF es f = [((i:Int),1,1)]) ∨
    ∃ (i : Nat) (p q : Int × Int), i + 1 < es.length ∧ shF es f = [((i : Int), p), (((i + 1 : Nat) : Int), q)] ∧ p = lowF (to es i - f) (to es i - fr es (i + 1) + 1) ∧ q = lowF (f - fr es (i + 1) + 1) (to es i - fr es (i + 1) + 1) ∧
      1 ≤ p.1 ∧ p.1 ≤ p.2 ∧ p.2 ≤ 251 ∧ 1 ≤ q.1 ∧ q.1 ≤ q.2 ∧ q.2 ≤ 251 ∧ p.1 * q.2 + q.1 * p.2 = p.2 * q.2:=by
  rcases h.onL f es.length (Nat.le_refl _) with e | ⟨i,h1,h2,e⟩ | ⟨i,h1,h2,h3,e⟩
  · left;unfold shF;rw [e]
  · right;left;exact ⟨i,h1,h2,by unfold shF;rw [e]⟩
  · right;right
    have ho:=h.over h1
    simp only [onB,Bool.and_eq_true,decide_eq_true_eq] at h2 h3
    have e2:to es i - fr es (i + 1) - (f - fr es (i + 1)) = to es i - f:=by omega
    have l1:=low_in (a:=to es i - f) (b:=to es i - fr es (i + 1) + 1) (by omega) (by omega)
    have l2:=low_in (a:=f - fr es (i + 1) + 1) (b:=to es i - fr es (i + 1) + 1) (by omega) (by omega)
    have l3:=low_sum (a:=to es i - f) (b:=f - fr es (i + 1) + 1) (c:=to es i - fr es (i + 1) + 1) (by omega) (by omega) (by omega)
    refine ⟨i,_,_,h1,?_,rfl,rfl,l1.1,l1.2.1,by omega,l2.1,l2.2.1,by omega,l3⟩
    unfold shF;rw [e];dsimp only;rw [e2]
end Go.Proofs.A1
