/- Parts of the proof: ES93p ES85 ES87 ES94p. -/
import Derived.Test.YtpamkookgkffgaaGreatDoorTM21
import Derived.Test.YtpamkookgkffgaaGreatDoorTM06
set_option linter.unusedSectionVars false
set_option linter.unusedVariables false
set_option linter.unusedSimpArgs false
namespace Go.Proofs.A1
open Go Go.SL
def lnS (l:List En):Nat → Int
  | 0=>0
  | j + 1=>lnS l j + (nth l j).ln
structure Fil (es l:List En) (k:Nat):Prop where
  hs:Sound es
  gap:k + 1 < es.length ∧ to es k < fr es (k + 1)
  kd0:0 < l.length → (nth l 0).kd = sFix ∧ (nth l 0).tm = to es k
  kdj:∀ j,0 < j → j < l.length → (nth l j).kd = sFol
  ov:∀ j,j < l.length → (nth l j).ov = 0
  ok:∀ j,j < l.length → EnOk (nth l j)
  fits:lnS l l.length ≤ fr es (k + 1) - to es k
def fil (es l:List En) (k:Nat):List En:=chg es (k + 1) (k + 1) l
theorem fil_len {es l:List En} {k:Nat} (h:k + 1 ≤ es.length):(fil es l k).length = es.length + l.length:=by
  unfold fil chg
  simp only [List.flatten_cons,List.flatten_nil,List.append_nil,List.length_append,List.length_take,List.length_drop]
  omega
theorem nth_fil1 {es l:List En} {k i:Nat} (h:k + 1 ≤ es.length) (hi:i ≤ k):nth (fil es l k) i = nth es i:=
  ((chg_same (es:=es) (l:=l) (f:=k + 1) (t:=k + 1) h).2.2 i (by omega)).symm
theorem nth_fil2 {es l:List En} {k j:Nat} (h:k + 1 ≤ es.length) (hj:j < l.length):nth (fil es l k) (k + 1 + j) = nth l j:=by
  have hl:(es.take (k + 1)).length = k + 1:=by rw [List.length_take];omega
  unfold nth fil chg
  simp only [List.flatten_cons,List.flatten_nil,List.append_nil,List.getD_eq_getElem?_getD]
  rw [List.getElem?_append_right (by omega),List.getElem?_append_left (by omega),hl,show k + 1 + j - (k + 1) = j by omega]
theorem nth_fil3 {es l:List En} {k d:Nat} (h:k + 1 ≤ es.length):nth (fil es l k) (k + 1 + l.length + d) = nth es (k + 1 + d):=by
  have hl:(es.take (k + 1)).length = k + 1:=by rw [List.length_take];omega
  unfold nth fil chg
  simp only [List.flatten_cons,List.flatten_nil,List.append_nil,List.getD_eq_getElem?_getD]
  rw [List.getElem?_append_right (by omega),List.getElem?_append_right (by omega),hl,List.getElem?_drop,show k + 1 + (k + 1 + l.length + d - (k + 1) - l.length) = k + 1 + d by omega]
theorem Fil.same {es l:List En} {k:Nat} (h:Fil es l k):Same1 es (fil es l k) (k + 1):=chg_same (by have:=h.gap.1;omega)
theorem Fil.fr2 {es l:List En} {k:Nat} (h:Fil es l k):∀ {j:Nat},j < l.length → fr (fil es l k) (k + 1 + j) = to es k + lnS l j
  | 0, hj => by
    have hk:=h.kd0 hj
    show frm (nth (fil es l k) (k + 1)).kd (nth (fil es l k) (k + 1)).tm (jn (fil es l k) (k + 1)) = to es k + 0
    rw [nth_fil2 (j:=0) (by have:=h.gap.1;omega) hj,hk.1,hk.2,frm,if_neg (by decide),if_neg (by decide),Int.add_zero]
  | j + 1, hj => by
    have ih:=h.fr2 (j:=j) (by omega)
    have hg:=h.gap.1
    show frm (nth (fil es l k) (k + 1 + (j + 1))).kd (nth (fil es l k) (k + 1 + (j + 1))).tm (jn (fil es l k) (k + 1 + j + 1)) = to es k + (lnS l j + (nth l j).ln)
    rw [nth_fil2 (by omega) hj,h.kdj (j + 1) (by omega) hj,frm,if_pos rfl,jn_succ,to,ih,nth_fil2 (by omega) (by omega),h.ov j (by omega)]
    omega
theorem Fil.to2 {es l:List En} {k:Nat} (h:Fil es l k) {j:Nat} (hj:j < l.length):to (fil es l k) (k + 1 + j) = to es k + lnS l (j + 1):=by
  show fr (fil es l k) (k + 1 + j) + (nth (fil es l k) (k + 1 + j)).ln = to es k + (lnS l j + (nth l j).ln)
  rw [h.fr2 hj,nth_fil2 (by have:=h.gap.1;omega) hj];omega
theorem Fil.lnS_le {es l:List En} {k:Nat} (h:Fil es l k):∀ {i j:Nat},i ≤ j → j ≤ l.length → lnS l i ≤ lnS l j
  | i,0,hij,_=>by rw [show i = 0 by omega];exact Int.le_refl _
  | i, j + 1, hij, hj => by
    by_cases e:i = j + 1
    · rw [e];exact Int.le_refl _
    · have:=h.lnS_le (i:=i) (j:=j) (by omega) (by omega)
      have:=(h.ok j (by omega)).ln
      show lnS l i ≤ lnS l j + (nth l j).ln
      omega
theorem Fil.jn_at {es l:List En} {k:Nat} (h:Fil es l k):jn (fil es l k) (k + 1 + l.length) ≤ to es k + lnS l l.length:=by
  have hg:=h.gap.1
  by_cases h0:l.length = 0
  · rw [h0,Nat.add_zero,jn_succ,← (h.same.fr (k:=k) (by omega)).2,nth_fil1 (by omega) (Nat.le_refl k)]
    have:=(h.hs.all.ok k (by omega)).ov
    show to es k - (nth es k).ov ≤ to es k + 0
    omega
  · obtain ⟨j,hj⟩:∃ j,l.length = j + 1:=⟨l.length - 1,by omega⟩
    rw [hj,show k + 1 + (j + 1) = k + 1 + j + 1 by omega,jn_succ,h.to2 (by omega),nth_fil2 (by omega) (by omega),h.ov j (by omega)]
    omega
theorem Fil.fr3 {es l:List En} {k:Nat} (h:Fil es l k):∀ {d:Nat},k + 1 + d < es.length → fr (fil es l k) (k + 1 + l.length + d) = fr es (k + 1 + d)
  | 0, hd => by
    have hg:=h.gap
    have hj:=h.jn_at
    have hf:=h.fits
    have hov:=(h.hs.all.ok k (by omega)).ov
    have hf2:fr es (k + 1) = frm (nth es (k + 1)).kd (nth es (k + 1)).tm (to es k - (nth es k).ov):=rfl
    show frm (nth (fil es l k) (k + 1 + l.length + 0)).kd (nth (fil es l k) (k + 1 + l.length + 0)).tm (jn (fil es l k) (k + 1 + l.length)) = fr es (k + 1)
    rw [nth_fil3 (by omega),Nat.add_zero]
    have h2:=hg.2
    rw [hf2] at h2 hf ⊢
    unfold frm at h2 hf ⊢
    split
    · rename_i e;rw [if_pos e] at h2;omega
    · rename_i e
      rw [if_neg e] at h2 hf
      split
      · rename_i e2
        rw [if_pos e2] at h2 hf
        omega
      · rfl
  | d + 1, hd => by
    have ih:=h.fr3 (d:=d) (by omega)
    have hg:=h.gap.1
    show frm (nth (fil es l k) (k + 1 + l.length + (d + 1))).kd (nth (fil es l k) (k + 1 + l.length + (d + 1))).tm (jn (fil es l k) (k + 1 + l.length + d + 1)) = frm (nth es (k + 1 + (d + 1))).kd (nth es (k + 1 + (d + 1))).tm (jn es (k + 1 + d + 1))
    rw [nth_fil3 (by omega),jn_succ,jn_succ,to,ih,nth_fil3 (by omega),to]
theorem Fil.to3 {es l:List En} {k:Nat} (h:Fil es l k) {d:Nat} (hd:k + 1 + d < es.length):to (fil es l k) (k + 1 + l.length + d) = to es (k + 1 + d):=by
  have hg:=h.gap.1
  rw [to,h.fr3 hd,nth_fil3 (by omega),to]
theorem Fil.at {es l:List En} {k:Nat} (h:Fil es l k) {i:Nat} (hi:i < es.length + l.length) :
    (i ≤ k ∧ fr (fil es l k) i = fr es i ∧ to (fil es l k) i = to es i ∧ nth (fil es l k) i = nth es i) ∨
    (∃ j,j < l.length ∧ i = k + 1 + j ∧ fr (fil es l k) i = to es k + lnS l j ∧ to (fil es l k) i = to es k + lnS l (j + 1) ∧ nth (fil es l k) i = nth l j) ∨
    ∃ d,k + 1 + d < es.length ∧ i = k + 1 + l.length + d ∧ fr (fil es l k) i = fr es (k + 1 + d) ∧ to (fil es l k) i = to es (k + 1 + d) ∧ nth (fil es l k) i = nth es (k + 1 + d):=by
  have hg:=h.gap.1
  by_cases h1:i ≤ k
  · have:=h.same.fr (k:=i) (by omega)
    exact .inl ⟨h1,this.1.symm,this.2.symm,nth_fil1 (by omega) h1⟩
  · by_cases h2:i < k + 1 + l.length
    · obtain ⟨j,rfl⟩:∃ j,i = k + 1 + j:=⟨i - (k + 1),by omega⟩
      exact .inr (.inl ⟨j,by omega,rfl,h.fr2 (by omega),h.to2 (by omega),nth_fil2 (by omega) (by omega)⟩)
    · obtain ⟨d,rfl⟩:∃ d,i = k + 1 + l.length + d:=⟨i - (k + 1 + l.length),by omega⟩
      exact .inr (.inr ⟨d,by omega,rfl,h.fr3 (by omega),h.to3 (by omega),nth_fil3 (by omega)⟩)
theorem Fil.next {es l:List En} {k:Nat} (h:Fil es l k) {i:Nat} (hi:i + 1 < es.length + l.length) :
    to (fil es l k) i - (nth (fil es l k) i).ov ≤ fr (fil es l k) (i + 1) ∧ fr (fil es l k) i < fr (fil es l k) (i + 1) ∧ to (fil es l k) i < to (fil es l k) (i + 1):=by
  have hg:=h.gap
  have hf:=h.fits
  have hk:=h.hs.fr_nn (k:=k) (by omega)
  have hovk:=(h.hs.all.ok k (by omega)).ov
  have hstep:∀ j,j < l.length → lnS l (j + 1) = lnS l j + (nth l j).ln ∧ 1 ≤ (nth l j).ln:=fun j hj=>⟨rfl,(h.ok j hj).ln.1⟩
  have h0:lnS l 0 = 0:=rfl
  rcases h.at (i:=i) (by omega) with ⟨a1,a2,a3,a4⟩ | ⟨j,a1,a5,a2,a3,a4⟩ | ⟨d,a1,a5,a2,a3,a4⟩ <;>
  rcases h.at (i:=i + 1) hi with ⟨b1,b2,b3,b4⟩ | ⟨j',b1,b5,b2,b3,b4⟩ | ⟨d',b1,b5,b2,b3,b4⟩ <;>
  rw [a2,a3,a4,b2,b3]
  · have:=h.hs.next (k:=i) (by omega)
    rw [jn_succ] at this
    exact this
  · obtain rfl:i = k:=by omega
    obtain rfl:j' = 0:=by omega
    have:=hstep 0 b1
    omega
  · obtain rfl:i = k:=by omega
    obtain rfl:d' = 0:=by omega
    have:=h.hs.next (k:=i) (by omega)
    rw [jn_succ] at this
    exact this
  · exfalso;omega
  · obtain rfl:j' = j + 1:=by omega
    have e1:=hstep j a1
    have e2:=hstep (j + 1) b1
    have:=h.ov j a1
    omega
  · obtain rfl:d' = 0:=by omega
    have e1:=hstep j a1
    have:=h.ov j a1
    have e2:=h.lnS_le (i:=j + 1) (j:=l.length) (by omega) (Nat.le_refl _)
    have e3:=h.hs.fr_nn (k:=k + 1) (by omega)
    simp only [Nat.add_zero]
    omega
  · exfalso;omega
  · exfalso;omega
  · obtain rfl:d' = d + 1:=by omega
    have:=h.hs.next (k:=k + 1 + d) (by omega)
    rw [jn_succ] at this
    exact this
theorem Fil.third {es l:List En} {k:Nat} (h:Fil es l k) {i:Nat} (hi:i + 2 < es.length + l.length):to (fil es l k) i ≤ fr (fil es l k) (i + 2):=by
  have hg:=h.gap
  have hf:=h.fits
  have hk:=h.hs.fr_nn (k:=k) (by omega)
  have hle:∀ a b,a ≤ b → b ≤ l.length → lnS l a ≤ lnS l b:=fun a b x y=>h.lnS_le x y
  have h0:lnS l 0 = 0:=rfl
  rcases h.at (i:=i) (by omega) with ⟨a1,a2,a3,a4⟩ | ⟨j,a1,a5,a2,a3,a4⟩ | ⟨d,a1,a5,a2,a3,a4⟩ <;>
  rcases h.at (i:=i + 2) hi with ⟨b1,b2,b3,b4⟩ | ⟨j',b1,b5,b2,b3,b4⟩ | ⟨d',b1,b5,b2,b3,b4⟩ <;>
  rw [a3,b2]
  · exact h.hs.third (k:=i) (by omega)
  · have e1:=hle 0 j' (by omega) (by omega)
    by_cases e:i = k
    · subst e;omega
    · have:=h.hs.to_lt (i:=i) (k:=k) (by omega) (by omega)
      omega
  · have e1:=hle 0 l.length (by omega) (by omega)
    by_cases e:i = k
    · subst e
      by_cases e2:d' = 0
      · subst e2;simp only [Nat.add_zero];omega
      · have:=h.hs.fr_lt (i:=i + 1) (k:=i + 1 + d') (by omega) b1
        omega
    · have e3:=h.hs.to_lt (i:=i) (k:=k) (by omega) (by omega)
      by_cases e2:d' = 0
      · subst e2;simp only [Nat.add_zero];omega
      · have:=h.hs.fr_lt (i:=k + 1) (k:=k + 1 + d') (by omega) b1
        omega
  · exfalso;omega
  · have:=hle (j + 1) j' (by omega) (by omega)
    omega
  · have e1:=hle (j + 1) l.length (by omega) (by omega)
    by_cases e2:d' = 0
    · subst e2;simp only [Nat.add_zero];omega
    · have:=h.hs.fr_lt (i:=k + 1) (k:=k + 1 + d') (by omega) b1
      omega
  · exfalso;omega
  · exfalso;omega
  · obtain rfl:d' = d + 2:=by omega
    exact h.hs.third (k:=k + 1 + d) (by omega)
theorem dup_false {es:List En} {q:Nat}:dup es q = false ↔ ∀ p,p < q → (nth es p).nm ≠ (nth es q).nm:=by
  unfold dup
  rw [List.any_eq_false]
  constructor
  · intro h p hp e
    exact h p (List.mem_range.2 hp) (decide_eq_true e)
  · intro h p hp e
    exact h p (List.mem_range.1 hp) (of_decide_eq_true e)
theorem chk_of {es:List En} (h24:es.length ≤ 24) (h1:∀ k,k < es.length → EnOk (nth es k)) (h2:∀ p q,p < q → q < es.length → (nth es p).nm ≠ (nth es q).nm) (h3:0 < es.length → (nth es 0).kd ≠ sFol)
    (h4:∀ i,i + 1 < es.length → to es i - (nth es i).ov ≤ fr es (i + 1) ∧ fr es i < fr es (i + 1) ∧ to es i < to es (i + 1)) (h5:∀ i,i + 2 < es.length → to es i ≤ fr es (i + 2)) (h6:∀ i,i < es.length → to es i ≤ 10000000):chkF es = 0:=by
  unfold chkF
  rw [if_neg (by omega),firstF_zero]
  simp only [List.mem_cons,List.not_mem_nil,or_false,forall_eq_or_imp,forall_eq]
  rw [errE_ok,errE_ok]
  refine ⟨fun i hi=>?_,fun i hi=>?_⟩
  · unfold e1At
    rw [firstF_zero]
    simp only [List.mem_cons,List.not_mem_nil,or_false,forall_eq_or_imp,forall_eq]
    rw [whenF_zero (by decide),whenF_zero (by decide)]
    refine ⟨entF_ok.2 (h1 i hi),dup_false.2 fun p hp=>h2 p i hp hi,?_⟩
    by_cases e:i = 0
    · subst e
      rw [Bool.and_eq_false_iff]
      exact .inr (decide_eq_false (h3 hi))
    · rw [Bool.and_eq_false_iff]
      exact .inl (decide_eq_false e)
  · unfold e2At
    rw [firstF_zero]
    simp only [List.mem_cons,List.not_mem_nil,or_false,forall_eq_or_imp,forall_eq]
    rw [whenF_zero (by decide),whenF_zero (by decide)]
    refine ⟨?_,decide_eq_false (by have:=h6 i hi;omega)⟩
    unfold badAt
    match i,hi with
    | 0,_=>simp
    | 1, hi =>
      have:=h4 0 (by omega)
      rw [Nat.zero_add] at this
      simp only [Nat.sub_self,Nat.lt_irrefl,decide_false,Bool.false_and,Bool.or_false,Bool.and_eq_false_iff,Bool.or_eq_false_iff,decide_eq_false_iff_not]
      omega
    | i + 2, hi =>
      have a:=h4 (i + 1) (by omega)
      rw [show i + 1 + 1 = i + 2 from rfl] at a
      have b:=h5 i (by omega)
      rw [show i + 2 - 1 = i + 1 by omega,show i + 2 - 2 = i by omega]
      simp only [Bool.and_eq_false_iff,Bool.or_eq_false_iff,decide_eq_false_iff_not]
      omega
theorem Fil.chk {es l:List En} {k:Nat} (h:Fil es l k) (h24:es.length + l.length ≤ 24) (hn1:∀ i j,i < es.length → j < l.length → (nth es i).nm ≠ (nth l j).nm) (hn2:∀ i j,i < j → j < l.length → (nth l i).nm ≠ (nth l j).nm):chkF (fil es l k) = 0:=by
  have hg:=h.gap
  have hlen:=fil_len (es:=es) (l:=l) (k:=k) (by omega)
  have hes:∀ p q,p < q → q < es.length → (nth es p).nm ≠ (nth es q).nm:=fun p q hp hq=>dup_false.1 (h.hs.dup q hq) p hp
  refine chk_of (by omega) (fun i hi=>?_) (fun p q hp hq=>?_) (fun h0=>?_) (fun i hi=>h.next (by omega)) (fun i hi=>h.third (by omega)) (fun i hi=>?_)
  · rcases h.at (i:=i) (by omega) with ⟨a1,a2,a3,a4⟩ | ⟨j,a1,a5,a2,a3,a4⟩ | ⟨d,a1,a5,a2,a3,a4⟩ <;> rw [a4]
    · exact h.hs.all.ok i (by omega)
    · exact h.ok j a1
    · exact h.hs.all.ok _ a1
  · rcases h.at (i:=p) (by omega) with ⟨a1,a2,a3,a4⟩ | ⟨j,a1,a5,a2,a3,a4⟩ | ⟨d,a1,a5,a2,a3,a4⟩ <;>
    rcases h.at (i:=q) (by omega) with ⟨b1,b2,b3,b4⟩ | ⟨j',b1,b5,b2,b3,b4⟩ | ⟨d',b1,b5,b2,b3,b4⟩ <;>
    rw [a4,b4]
    · exact hes p q hp (by omega)
    · exact hn1 p j' (by omega) b1
    · exact hes p _ (by omega) b1
    · exfalso;omega
    · exact hn2 j j' (by omega) b1
    · exact fun e=>hn1 _ j b1 a1 e.symm
    · exfalso;omega
    · exfalso;omega
    · exact hes _ _ (by omega) b1
  · rw [nth_fil1 (by omega) (Nat.zero_le k)]
    exact h.hs.fol (by omega)
  · rcases h.at (i:=i) (by omega) with ⟨a1,a2,a3,a4⟩ | ⟨j,a1,a5,a2,a3,a4⟩ | ⟨d,a1,a5,a2,a3,a4⟩ <;> rw [a3]
    · exact h.hs.most i (by omega)
    · have e1:=h.lnS_le (i:=j + 1) (j:=l.length) (by omega) (Nat.le_refl _)
      have e2:=h.fits
      have e3:=h.hs.fr_nn (k:=k + 1) hg.1
      omega
    · exact h.hs.most _ a1
theorem nth_pl {b:Br} {f:Int} {o:List Nat} {m j:Nat} (hj:j < m):nth (plEn b f o m) j = plOne b f o j:=by
  unfold nth plEn
  rw [List.getD_eq_getElem?_getD,List.getElem?_map,List.getElem?_range hj];rfl
theorem lnS_pl {b:Br} {f:Int} {o:List Nat} {m:Nat}:∀ {j:Nat},j ≤ m → lnS (plEn b f o m) j = tL b.sp o j
  | 0,_=>rfl
  | j + 1, hj => by
    show lnS (plEn b f o m) j + (nth (plEn b f o m) j).ln = tL b.sp o j + (nthS9 b.sp (nthN o j)).ln
    rw [lnS_pl (by omega),nth_pl (by omega)];rfl
theorem plOne_ok {b:Br} (hb:BrOk b) {f:Int} (hf:0 ≤ f ∧ f ≤ 10000000) {o:List Nat} (ho:Dif b.sp.length o) {j:Nat} (hj:j < o.length):EnOk (plOne b f o j):=by
  have hm:nthS9 b.sp (nthN o j) ∈ b.sp:=nthS_mem (ho.lt _ (nthN_mem hj))
  have h1:=hb.nm _ hm
  have h2:=hb.ln _ hm
  refine ⟨h1,h1,?_,?_,?_,?_,?_,?_⟩
  · show (if j = 0 then sFix else sFol) = sFix ∨ (if j = 0 then sFix else sFol) = sFol ∨ _
    split
    · exact .inl rfl
    · exact .inr (.inl rfl)
  · show 0 ≤ (if j = 0 then f else 0) ∧ (if j = 0 then f else 0) ≤ 10000000
    split <;> omega
  · show (if j = 0 then sFix else sFol) = sFol → (if j = 0 then f else 0) = 0
    split
    · intro h;exact absurd h (by decide)
    · intro _;rfl
  · show 1 ≤ (nthS9 b.sp (nthN o j)).ln ∧ (nthS9 b.sp (nthN o j)).ln ≤ 1000000
    omega
  · show (0:Int) ≤ 0 ∧ (0:Int) ≤ 250
    omega
  · show (0:Int) < (nthS9 b.sp (nthN o j)).ln
    omega
theorem fil_of {es:List En} {b:Br} {o:List Nat} {k:Nat} (hs:Sound es) (hb:BrOk b) (ho:Filling b o) (hg:k + 1 < es.length ∧ to es k < fr es (k + 1)) (hn:b.n = fr es (k + 1) - to es k):Fil es (plEn b (to es k) o o.length) k:=by
  have hf:=hs.fr_nn (k:=k) (by omega)
  have hl:=plEn_length b (to es k) o o.length
  refine ⟨hs,hg,fun h0=>?_,fun j h0 hj=>?_,fun j hj=>?_,fun j hj=>?_,?_⟩
  · rw [hl] at h0
    rw [nth_pl h0]
    exact ⟨rfl,rfl⟩
  · rw [hl] at hj
    rw [nth_pl hj]
    show (if j = 0 then sFix else sFol) = sFol
    rw [if_neg (by omega)]
  · rw [hl] at hj
    rw [nth_pl hj];rfl
  · rw [hl] at hj
    rw [nth_pl hj]
    exact plOne_ok hb (by omega) ho.dif hj
  · rw [hl,lnS_pl (Nat.le_refl _)]
    have:=ho.le
    omega
theorem nthN_ne {o:List Nat} (h:o.Nodup) {i j:Nat} (hij:i < j) (hj:j < o.length):nthN o i ≠ nthN o j:=by
  unfold nthN
  rw [List.getD_eq_getElem?_getD,List.getD_eq_getElem?_getD,List.getElem?_eq_getElem (by omega),List.getElem?_eq_getElem hj]
  exact fun e=>absurd ((List.getElem_inj h).1 e) (by omega)
theorem spots_ne {b:Br} (hb:BrOk b) {i j:Nat} (hij:i ≠ j) (hi:i < b.sp.length) (hj:j < b.sp.length):(nthS9 b.sp i).nm ≠ (nthS9 b.sp j).nm:=by
  have go:∀ p q,p < q → q < b.sp.length → (nthS9 b.sp p).nm ≠ (nthS9 b.sp q).nm:=fun p q hp hq e=>by
    have:=hb.dst q hq
    unfold knwS at this
    rw [List.any_eq_false] at this
    exact this p (List.mem_range.2 hp) (decide_eq_true e)
  rcases Nat.lt_or_gt_of_ne hij with h | h
  · exact go i j h hj
  · exact fun e=>go j i h hi e.symm
theorem fil_chk {es:List En} {b:Br} {o:List Nat} {k:Nat} (hs:Sound es) (hb:BrOk b) (ho:Filling b o) (hg:k + 1 < es.length ∧ to es k < fr es (k + 1)) (hn:b.n = fr es (k + 1) - to es k) (h8:es.length ≤ 8) (hnm:∀ i j,i < es.length → j < b.sp.length → (nth es i).nm ≠ (nthS9 b.sp j).nm):chkF (fil es (plEn b (to es k) o o.length) k) = 0:=by
  have hl:=plEn_length b (to es k) o o.length
  have hf8:=ho.few hb
  refine (fil_of hs hb ho hg hn).chk (by omega) (fun i j hi hj=>?_) (fun i j hij hj=>?_)
  · rw [hl] at hj
    rw [nth_pl hj]
    exact hnm i _ hi (ho.dif.lt _ (nthN_mem hj))
  · rw [hl] at hj
    rw [nth_pl hj,nth_pl (by omega)]
    exact spots_ne hb (nthN_ne ho.dif.nd hij hj) (ho.dif.lt _ (nthN_mem (by omega))) (ho.dif.lt _ (nthN_mem hj))
theorem gpL_at {es:List En}:∀ {n g:Nat} {x:Int × Int × Int},(gpL es n)[g]? = some x → ∃ k,k + 1 < n ∧ to es k < fr es (k + 1) ∧ x = ((k:Int),to es k,fr es (k + 1)) ∧ g = (gpL es (k + 1)).length
  | 0,g,x,h=>by simp [gpL] at h
  | n + 1, g, x, h => by
    rw [gpL] at h
    by_cases hl:g < (gpL es n).length
    · rw [List.getElem?_append_left hl] at h
      obtain ⟨k,h1,h2⟩:=gpL_at h
      exact ⟨k,by omega,h2⟩
    · rw [List.getElem?_append_right (by omega)] at h
      split at h
      · rename_i hc
        obtain ⟨k,rfl⟩:∃ k,n = k + 1:=⟨n - 1,by omega⟩
        have hg:g - (gpL es (k + 1)).length = 0:=by
          apply Classical.byContradiction
          intro h0
          rw [List.getElem?_eq_none (by simp;omega)] at h
          cases h
        rw [hg] at h
        simp only [List.getElem?_cons_zero,Option.some.injEq] at h
        refine ⟨k,by omega,hc.2,?_,by omega⟩
        rw [← h]
        simp
      · simp at h
theorem gpL_step {es:List En} {k:Nat}:gpL es (k + 2) = gpL es (k + 1)++if to es k < fr es (k + 1) then [((k:Int),to es k,fr es (k + 1))] else []:=by
  rw [gpL]
  congr 1
  by_cases h:to es k < fr es (k + 1)
  · rw [if_pos ⟨by omega,h⟩,if_pos h]
    simp
  · rw [if_neg (fun e=>h e.2),if_neg h]
theorem gpL_pre {es:List En} {n:Nat}:∀ d,gpL es n <+: gpL es (n + d)
  | 0=>List.prefix_rfl
  | d + 1=>(gpL_pre d).trans (by rw [show n + (d + 1) = n + d + 1 by omega,gpL];exact List.prefix_append _ _)
theorem Fil.gp1 {es l:List En} {k:Nat} (h:Fil es l k):∀ {n:Nat},n ≤ k + 1 → gpL (fil es l k) n = gpL es n
  | 0,_=>rfl
  | n + 1, hn => by
    rw [gpL,gpL,h.gp1 (by omega)]
    by_cases h0:n = 0
    · subst h0;rfl
    · rw [(h.same.fr (k:=n) (by omega)).1,(h.same.fr (k:=n - 1) (by omega)).2]
theorem Fil.gp2 {es l:List En} {k:Nat} (h:Fil es l k):∀ {j:Nat},j ≤ l.length → gpL (fil es l k) (k + 1 + j) = gpL es (k + 1)
  | 0,_=>h.gp1 (Nat.le_refl _)
  | j + 1, hj => by
    rw [show k + 1 + (j + 1) = k + j + 2 by omega,gpL_step,show k + j + 1 = k + 1 + j by omega,h.gp2 (by omega),h.fr2 (by omega),if_neg,List.append_nil]
    by_cases h0:j = 0
    · subst h0
      rw [Nat.add_zero,← (h.same.fr (k:=k) (by omega)).2]
      show ¬ to es k < to es k + 0
      omega
    · obtain ⟨i,rfl⟩:∃ i,j = i + 1:=⟨j - 1,by omega⟩
      rw [show k + (i + 1) = k + 1 + i by omega,h.to2 (by omega)]
      omega
theorem Fil.last {es l:List En} {k:Nat} (h:Fil es l k):to (fil es l k) (k + l.length) = to es k + lnS l l.length:=by
  by_cases h0:l.length = 0
  · rw [h0,Nat.add_zero,← (h.same.fr (k:=k) (by omega)).2]
    show to es k = to es k + 0
    omega
  · obtain ⟨j,hj⟩:∃ j,l.length = j + 1:=⟨l.length - 1,by omega⟩
    rw [hj,show k + (j + 1) = k + 1 + j by omega,h.to2 (by omega)]
theorem Fil.gp3 {es l:List En} {k:Nat} (h:Fil es l k):gpL (fil es l k) (k + l.length + 2) = gpL es (k + 1)++if to es k + lnS l l.length < fr es (k + 1) then [(((k + l.length:Nat):Int),to es k + lnS l l.length,fr es (k + 1))] else []:=by
  have h3:=h.fr3 (d:=0) (by have:=h.gap.1;omega)
  rw [gpL_step,show k + l.length + 1 = k + 1 + l.length by omega,h.gp2 (Nat.le_refl _),h.last,show k + 1 + l.length = k + 1 + l.length + 0 from rfl,h3]
theorem Fil.gp4 {es l:List En} {k:Nat} (h:Fil es l k):∀ {d:Nat},k + 2 + d ≤ es.length → (gpL (fil es l k) (k + l.length + 2 + d)).length + (gpL es (k + 2)).length = (gpL es (k + 2 + d)).length + (gpL (fil es l k) (k + l.length + 2)).length
  | 0,_=>by simp only [Nat.add_zero];omega
  | d + 1, hd => by
    have ih:=h.gp4 (d:=d) (by omega)
    have h1:=h.to3 (d:=d) (by omega)
    have h2:=h.fr3 (d:=d + 1) (by omega)
    have a:=gpL_step (es:=fil es l k) (k:=k + 1 + l.length + d)
    have b:=gpL_step (es:=es) (k:=k + 1 + d)
    rw [show k + 1 + l.length + d + 1 = k + 1 + l.length + (d + 1) from rfl,h1,h2] at a
    rw [show k + 1 + d + 1 = k + 1 + (d + 1) from rfl] at b
    have a':=congrArg List.length a
    have b':=congrArg List.length b
    rw [List.length_append] at a' b'
    rw [show k + l.length + 2 + (d + 1) = k + 1 + l.length + d + 2 by omega,show k + 2 + (d + 1) = k + 1 + d + 2 by omega]
    rw [show k + 1 + l.length + (d + 1) = k + l.length + 2 + d by omega] at a'
    rw [show k + 1 + (d + 1) = k + 2 + d by omega] at a' b'
    split at a' <;> rename_i hc
    · rw [if_pos hc] at b'
      simp only [List.length_cons,List.length_nil] at a' b'
      omega
    · rw [if_neg hc] at b'
      simp only [List.length_nil] at a' b'
      omega
theorem Fil.gaps {es l:List En} {k:Nat} (h:Fil es l k):((gpL (fil es l k) (es.length + l.length)).length:Int) = (gpL es es.length).length - (if lnS l l.length = fr es (k + 1) - to es k then 1 else 0) ∧
    (lnS l l.length < fr es (k + 1) - to es k → (gpL (fil es l k) (es.length + l.length))[(gpL es (k + 1)).length]? = some (((k + l.length:Nat):Int),to es k + lnS l l.length,fr es (k + 1))):=by
  have hg:=h.gap
  have hf:=h.fits
  obtain ⟨d,hd⟩:∃ d,es.length = k + 2 + d:=⟨es.length - (k + 2),by omega⟩
  have h4:=h.gp4 (d:=d) (by omega)
  have h3:=h.gp3
  have h2:gpL es (k + 2) = gpL es (k + 1)++[((k:Int),to es k,fr es (k + 1))]:=by rw [gpL_step,if_pos hg.2]
  have e1:es.length + l.length = k + l.length + 2 + d:=by omega
  rw [e1]
  constructor
  · have l2:=congrArg List.length h2
    have l3:=congrArg List.length h3
    rw [List.length_append] at l2 l3
    simp only [List.length_cons,List.length_nil] at l2
    rw [hd]
    split
    · rw [if_neg (by omega)] at l3
      simp only [List.length_nil] at l3
      omega
    · rw [if_pos (by omega)] at l3
      simp only [List.length_cons,List.length_nil] at l3
      omega
  · intro hlt
    obtain ⟨r,hr⟩:=gpL_pre (es:=fil es l k) (n:=k + l.length + 2) d
    rw [← hr,h3,if_pos (by omega),List.append_assoc,List.getElem?_append_right (Nat.le_refl _),Nat.sub_self]
    rfl
theorem vw_ne {es:List En} {n:Int} {i:Nat} (hi:i < es.length) (h:onB es n i = true):vwL es n ≠ []:=by
  have hm:i ∈ onL es n es.length:=by
    unfold onL
    exact List.mem_filter.2 ⟨List.mem_range.2 hi,h⟩
  unfold vwL shF
  generalize onL es n es.length = l at hm
  match l,hm with
  | [_],_=>simp
  | _ :: _ :: _,_=>simp
theorem Fil.in_es {es l:List En} {k:Nat} (h:Fil es l k) {n:Int} (h1:to es k ≤ n) (h2:n < fr es (k + 1)):vwL es n = []:=by
  have hg:=h.gap.1
  refine vw_off fun i hi=>?_
  by_cases e:i ≤ k
  · right
    by_cases e2:i = k
    · subst e2;exact h1
    · have:=h.hs.to_lt (i:=i) (k:=k) (by omega) (by omega);omega
  · left
    by_cases e2:i = k + 1
    · subst e2;exact h2
    · have:=h.hs.fr_lt (i:=k + 1) (k:=i) (by omega) hi;omega
theorem lnS_find {l:List En} {x:Int} (h0:0 ≤ x):∀ {m:Nat},x < lnS l m → ∃ j,j < m ∧ lnS l j ≤ x ∧ x < lnS l (j + 1)
  | 0, h => by
    exfalso
    have:lnS l 0 = 0:=rfl
    omega
  | m + 1, h => by
    by_cases e:x < lnS l m
    · obtain ⟨j,hj,h2⟩:=lnS_find h0 e
      exact ⟨j,by omega,h2⟩
    · exact ⟨m,by omega,by omega,h⟩
theorem Fil.on_cs {es l:List En} {k:Nat} (h:Fil es l k) {n:Int} (h1:to es k ≤ n) (h2:n < to es k + lnS l l.length):vwL (fil es l k) n ≠ []:=by
  have hg:=h.gap.1
  obtain ⟨j,hj,a,b⟩:=lnS_find (l:=l) (x:=n - to es k) (by omega) (m:=l.length) (by omega)
  refine vw_ne (i:=k + 1 + j) (by rw [fil_len (by omega)];omega) ?_
  unfold onB
  rw [h.fr2 hj,h.to2 hj,Bool.and_eq_true,decide_eq_true_eq,decide_eq_true_eq]
  omega
theorem onL_skip {es:List En} {f:Int} {a:Nat} (h:∀ i,i < a → onB es f i = false):∀ b,onL es f (a + b) = ((List.range b).filter fun d=>onB es f (a + d)).map (a + ·)
  | 0 => by
    show (List.range a).filter (onB es f) = _
    rw [List.filter_eq_nil_iff.2 fun i hi=>by rw [h i (List.mem_range.1 hi)];decide];rfl
  | b + 1 => by
    rw [show a + (b + 1) = a + b + 1 by omega,onL_succ,onL_skip h b,List.range_succ,List.filter_append,List.map_append]
    congr 1
    cases e:onB es f (a + b) <;> simp [e]
theorem vw_list {es cs:List En} {n:Int} {a b:Nat} {D:List Nat} (h1:onL es n es.length = D.map (a + ·)) (h2:onL cs n cs.length = D.map (b + ·)) (h:∀ d ∈ D,fr es (a + d) = fr cs (b + d) ∧ to es (a + d) = to cs (b + d) ∧ (nth es (a + d)).nm = (nth cs (b + d)).nm):vwL es n = vwL cs n:=by
  unfold vwL shF
  rw [h1,h2]
  match D,h with
  | [],_=>rfl
  | [d], h =>
    have:=h d (by simp)
    simp only [List.map_cons,List.map_nil,Int.toNat_natCast,this.2.2]
  | d :: e :: _, h =>
    have x1:=h d (by simp)
    have x2:=h e (by simp)
    simp only [List.map_cons,List.map_nil,Int.toNat_natCast,x1.2.1,x1.2.2,x2.1,x2.2.2]
theorem Fil.vw_after {es l:List En} {k:Nat} (h:Fil es l k) {n:Int} (hn:to es k + lnS l l.length ≤ n):vwL es n = vwL (fil es l k) n:=by
  have hg:=h.gap.1
  have hlen:=fil_len (es:=es) (l:=l) (k:=k) (by omega)
  have hS:0 ≤ lnS l l.length:=h.lnS_le (i:=0) (Nat.zero_le _) (Nat.le_refl _)
  have e1:∀ i,i < k + 1 → onB es n i = false:=fun i hi=>by
    unfold onB
    rw [Bool.and_eq_false_iff,decide_eq_false_iff_not,decide_eq_false_iff_not]
    right
    by_cases e:i = k
    · subst e;omega
    · have:=h.hs.to_lt (i:=i) (k:=k) (by omega) (by omega);omega
  have e2:∀ i,i < k + 1 + l.length → onB (fil es l k) n i = false:=fun i hi=>by
    unfold onB
    rw [Bool.and_eq_false_iff,decide_eq_false_iff_not,decide_eq_false_iff_not]
    right
    rcases h.at (i:=i) (by omega) with ⟨a1,a2,a3,a4⟩ | ⟨j,a1,a5,a2,a3,a4⟩ | ⟨d,a1,a5,a2,a3,a4⟩
    · rw [a3]
      by_cases e:i = k
      · subst e;omega
      · have:=h.hs.to_lt (i:=i) (k:=k) (by omega) (by omega);omega
    · rw [a3]
      have:=h.lnS_le (i:=j + 1) (j:=l.length) (by omega) (Nat.le_refl _)
      omega
    · exfalso;omega
  have l1:=onL_skip e1 (es.length - (k + 1))
  have l2:=onL_skip e2 (es.length - (k + 1))
  rw [show k + 1 + (es.length - (k + 1)) = es.length by omega] at l1
  rw [show k + 1 + l.length + (es.length - (k + 1)) = (fil es l k).length by omega] at l2
  have hsame:((List.range (es.length - (k + 1))).filter fun d=>onB es n (k + 1 + d)) = (List.range (es.length - (k + 1))).filter fun d=>onB (fil es l k) n (k + 1 + l.length + d):=by
    refine List.filter_congr fun d hd=>?_
    have hd:=List.mem_range.1 hd
    unfold onB
    rw [h.fr3 (by omega),h.to3 (by omega)]
  rw [hsame] at l1
  refine vw_list l1 l2 fun d hd=>?_
  have hd:=List.mem_range.1 (List.mem_filter.1 hd).1
  exact ⟨(h.fr3 (by omega)).symm,(h.to3 (by omega)).symm,by rw [nth_fil3 (by omega)]⟩
theorem Fil.ch {es l:List En} {k:Nat} (h:Fil es l k) (hc:Sound (fil es l k)) (h0:0 < l.length):ChSp (dfB es (fil es l k)) (to es k) (to es k + lnS l l.length):=by
  have hg:=h.gap
  have hf:=h.fits
  have hS:1 ≤ lnS l l.length:=by
    have:=h.lnS_le (i:=1) (j:=l.length) (by omega) (Nat.le_refl _)
    have e:lnS l 1 = 0 + (nth l 0).ln:=rfl
    have:=(h.ok 0 h0).ln
    omega
  have hin:∀ n,to es k ≤ n → n < to es k + lnS l l.length → dfB es (fil es l k) n = true:=fun n a b=>by
    unfold dfB
    rw [h.in_es a (by omega)]
    exact decide_eq_true (Ne.symm (h.on_cs a b))
  refine ⟨hin _ (by omega) (by omega),fun n hn=>?_,hin _ (by omega) (by omega),fun n hn=>?_⟩
  · unfold dfB
    have:vwL es n = vwL (fil es l k) n:=h.same.vw (now:=to es k - 1) h.hs hc (fun _=>by omega) (fun _=>by
      have:=h.fr2 (j:=0) h0
      have e:lnS l 0 = 0:=rfl
      rw [Nat.add_zero] at this
      omega) (by omega)
    rw [this];simp
  · unfold dfB
    rw [h.vw_after hn];simp
end Go.Proofs.A1
namespace Go.Proofs.A1
open Go Go.SL
def enE (es:List En):Int:=if es.length = 0 then 0 else to es (es.length - 1)
theorem end_c {sv:Value} {es:List En} {w:World} (h1:Rd w sv 6 (ensL es)) (hs:Sound es):GivesV Tryz.prog 20 [.agg #[sv]] w (.int .i64 (enE es)):=by
  have hone:=Rd.one h1
  have hfew:=hs.all.few
  refine givesV_of_tr Tryz.func20 rfl rfl ?_
  (refine s_r ?_;refine tr_new (rk_box (.of rfl) rfl) rfl (fun _ _=>?_);refine a_s rfl rfl ?_;refine n_r ?_;refine tr_val (rk_loadB (.of rfl) .here norm_ (by rfl)) rfl ?_)
  with_reducible apply tr_call
  case hr=>exact rk_call (.of rfl) (.cons (.of rfl) .nil) inferInstance normc_
  case hd=>rfl
  case ht=>exact Takes.nil
  case hc=>
    intro w1 fp hm1 _ hs1
    obtain rfl:fp = []:=hs1
    exact spansQ_c (h1.keeps hm1.keeps) hs
  intro v _
  dsimp only [id_eq,List.cons_append,List.nil_append]
  (refine a_s rfl rfl ?_;refine n_t ?_;refine tr_seq ?_;refine s_r ?_;refine m_v rfl rfl ?_)
  refine tr_rowSl (E:=45) (sz:=2) (by exact .here) fun va vc e=>?_
  subst e
  by_cases hn0:0 < es.length
  · refine tr_rowOpen (E:=45) (sz:=2) (by exact .here) hn0 fun g cap' cur e hcap' hmx' hsz' hl'=>?_
    obtain ⟨rfl,-,rfl⟩:=Value.slice.inj e
    have hk1:((es.length:Int) - 1).toNat = es.length - 1:=by omega
    have q1:(spV es es.length++cur)[((es.length:Int) - 1).toNat * 2 + 1]? = some (.int .i64 (to es (es.length - 1))):=by rw [hk1];exact spV_at (j:=1) (by omega) cur (by omega)
    (refine tr_val (rk_len_slice (.of rfl)) rfl ?_;refine tr_val (rk_eql (.of rfl) (.of rfl)) rfl ?_;refine n_t ?_;refine c_d rfl (fun _=>by omega) (fun hcd=>?_);refine s_t ?_;refine s_r ?_;refine m_v rfl rfl ?_;refine m_v rfl rfl ?_;refine tr_val (rk_len_slice (.of rfl)) rfl ?_;refine tr_val (rk_sub (.of rfl) (.of rfl) (ini (by omega))) rfl ?_;refine tr_val (rk_indexAddr (.of rfl) (.of rfl) rfl (by omega) (by omega) norm1_) rfl ?_;refine f_a rfl rfl norm0_ ?_;refine tr_val (rk_load1 (.of rfl) (At.blkL .here q1)) rfl ?_;refine a_s rfl rfl ?_;refine n_t ?_;refine tr_ret ?_;refine tr_retE rfl (ends1 rfl rfl) ?_)
    rw [enE,if_neg (by omega)]
  · have e0:es.length = 0:=by omega
    rw [e0]
    (refine tr_val (rk_len_slice (.of rfl)) rfl ?_;refine tr_val (rk_eql (.of rfl) (.of rfl)) rfl ?_;refine n_t ?_;refine c_d rfl (fun hcd=>?_) (fun _=>by omega);refine s_r ?_;refine a_s rfl rfl ?_;refine n_t ?_;refine r_t ?_;refine tr_retE rfl (ends1 rfl rfl) ?_)
    rw [enE,if_pos e0]
end Go.Proofs.A1
namespace Go.Proofs.A1
open Go Go.SL
theorem ChR.same {a b:List En} {x y:Int × Int × Int} (hx:ChR a b x) (hy:ChR a b y):x = y:=by
  rcases hx with ⟨h1,rfl⟩ | ⟨h1,h2⟩ <;> rcases hy with ⟨h3,rfl⟩ | ⟨h3,h4⟩
  · rfl
  · exact absurd h3 h1
  · exact absurd h1 h3
  · exact h2.same h4
open Classical in
noncomputable def chX9 (a b:List En):Int × Int × Int:=if h:∃ x,ChR a b x then Classical.choose h else (0,0,0)
theorem chX_eq {a b:List En} {x:Int × Int × Int} (h:ChR a b x):chX9 a b = x:=by
  have he:∃ x,ChR a b x:=⟨x,h⟩
  unfold chX9
  rw [dif_pos he]
  exact (Classical.choose_spec he).same h
def briefB (es:List En):Bool:=shortB es && decide (chkF es = 0) && decide (enE es ≤ 1000)
theorem and_r {a:Bool} {p:Prop} [Decidable p] (h:((a && decide p) == true) = true):p:=by
  have:=eq_of_beq h
  rw [Bool.and_eq_true,decide_eq_true_eq] at this
  exact this.2
theorem brief_c {sv:Value} {es:List En} {w:World} (h1:Rd w sv 6 (ensL es)):GivesV Tryz.prog 5 [.agg #[sv]] w (.bool (briefB es)):=by
  have hone:=Rd.one h1
  refine givesV_of_tr Tryz.func5 rfl rfl ?_
  (refine s_r ?_;refine tr_new (rk_box (.of rfl) rfl) rfl (fun _ _=>?_);refine a_s rfl rfl ?_;refine n_r ?_;refine tr_val (rk_loadB (.of rfl) .here norm_ (by rfl)) rfl ?_;refine tr_callV (rk_call (.of rfl) (.cons (.of rfl) .nil) inferInstance normc_) rfl (fun w' hm'=>(short_c (Rd.keeps h1 (Mem.keeps hm')))) ?_;refine m_v rfl rfl ?_;refine tr_vG1 rfl rfl inferInstance (fun hg hgp=>(rk_loadB (.of rfl) .here norm_ (by rfl))) rfl ?_;refine tr_callVG1 rfl rfl (fun hg=>(rk_call (.of rfl) (.cons (.ofg hg rfl) .nil) inferInstance normc_)) rfl (fun hg w' hm'=>(chkQ_c (Rd.keeps h1 (Mem.keeps hm')))) ?_;refine tr_vG1 rfl rfl inferInstance (fun hg hgp=>(rk_eql (.ofg hg rfl) (.of rfl))) rfl ?_;refine tr_val (rk_pick_and (.of rfl) rfl) rfl ?_;refine m_v rfl rfl ?_;refine tr_vG1 rfl rfl inferInstance (fun hg hgp=>(rk_loadB (.of rfl) .here norm_ (by rfl))) rfl ?_;refine tr_callVG1 rfl rfl (fun hg=>(rk_call (.of rfl) (.cons (.ofg hg rfl) .nil) inferInstance normc_)) rfl (fun hg w' hm'=>(end_c (Rd.keeps h1 (Mem.keeps hm')) (Sound.of (and_r hg)))) ?_;refine tr_vG1 rfl rfl inferInstance (fun hg hgp=>(rk_leq (.ofg hg rfl) (.of rfl))) rfl ?_;refine tr_val (rk_pick_and (.of rfl) rfl) rfl ?_;refine a_s rfl rfl ?_;refine n_t ?_;refine tr_ret ?_;refine tr_retE rfl (ends1 rfl rfl) ?_)
  rfl
end Go.Proofs.A1
namespace Go.Proofs.A1
open Go Go.SL
def natI (o:List Nat):List Int:=o.map fun (i:Nat)=>(i:Int)
theorem cfO_nat (o:List Nat):cfO (natI o) = o:=by
  unfold cfO natI
  rw [List.map_map]
  conv=>rhs;rw [← List.map_id o]
  exact List.map_congr_left fun i _=>Int.toNat_natCast i
structure FillOk (es:List En) (b:Br) (gi k:Nat) (f t:Int) (o:List Nat) (cs:List En):Prop where
  lt:k + 1 < es.length
  ft:0 ≤ f ∧ f < t ∧ t ≤ 10000000
  few:o.length ≤ b.sp.length ∧ o.length ≤ 8
  pl:plE es (gi:Int) b (natI o) = 0
  pcs:plL' es (gi:Int) b (natI o) = cs
  len:cs.length = es.length + o.length
  snd:chkF cs = 0
  bef:∀ i,i ≤ k → fr cs i = fr es i ∧ to cs i = to es i
  wth:∀ j,j < o.length → fr cs (k + 1 + j) = f + tL b.sp o j ∧ to cs (k + 1 + j) = f + tL b.sp o (j + 1) ∧ tL b.sp o j < tL b.sp o (j + 1)
  aft:∀ i,k + o.length < i → i < cs.length → fr cs i = fr es (i - o.length) ∧ to cs i = to es (i - o.length)
  le:tL b.sp o o.length ≤ b.n
  tl:∀ j,j ≤ o.length → 0 ≤ tL b.sp o j ∧ tL b.sp o j ≤ tL b.sp o o.length
  gps:((gpL cs cs.length).length:Int) = (gpL es es.length).length - if tL b.sp o o.length = b.n then 1 else 0
  rst:tL b.sp o o.length < b.n → (gpL cs cs.length)[gi]? = some (((k + o.length:Nat):Int),f + tL b.sp o o.length,t)
  ch0:o.length = 0 → chX9 es cs = (0,0,7)
  ch1:0 < o.length → chX9 es cs = (f,f + tL b.sp o o.length,0)
theorem fil_nil {es:List En} {k:Nat}:fil es [] k = es:=by
  unfold fil chg
  simp
theorem fill_ok {es:List En} {b:Br} {gi:Nat} {x:Int × Int × Int} (hz:chkF es = 0) (h8:es.length ≤ 8) (hb:brE b = 0) (hx:(gpL es es.length)[gi]? = some x) (hn:b.n = x.2.2 - x.2.1) (hnm:∀ i j,i < es.length → j < b.sp.length → (nth es i).nm ≠ (nthS9 b.sp j).nm) :
    ∃ k:Nat,x.1 = (k:Int) ∧ FillOk es b gi k x.2.1 x.2.2 (fillF b) (plL' es (gi:Int) b (natI (fillF b))):=by
  have hs:=Sound.of hz
  have hbo:=BrOk.of hb
  have ho:=fillF_ok hbo
  generalize fillF b = o at ho
  obtain ⟨k,hk,hg,rfl,hgi⟩:=gpL_at hx
  dsimp only at hn ⊢
  have hf:=fil_of hs hbo ho ⟨hk,hg⟩ hn
  have hz2:=fil_chk hs hbo ho ⟨hk,hg⟩ hn h8 hnm
  have hl:=plEn_length b (to es k) o o.length
  have h8o:=ho.few hbo
  have hfn:=hs.fr_nn (k:=k) (by omega)
  have hfn2:=hs.fr_nn (k:=k + 1) hk
  have hlen:=fil_len (es:=es) (l:=plEn b (to es k) o o.length) (k:=k) (by omega)
  rw [hl] at hlen
  have hgl:gi < (gpL es es.length).length:=(List.getElem?_eq_some_iff.1 hx).1
  have hpg:plGap es gi = ((k:Int),to es k,fr es (k + 1)):=by
    unfold plGap
    rw [List.getD_eq_getElem?_getD,hx];rfl
  have hpe:plEs es b (natI o) ((k:Int),to es k,fr es (k + 1)) = fil es (plEn b (to es k) o o.length) k:=by
    unfold plEs fil
    rw [cfO_nat,Int.toNat_natCast]
  have hpl:plE es (gi:Int) b (natI o) = 0:=by
    unfold plE
    rw [Int.toNat_natCast,hpg,hpe,if_neg (by rw [hz];decide)]
    have e1:pl1 es b (gi:Int) = 0:=by
      unfold pl1
      rw [firstF_zero]
      simp only [List.mem_cons,List.not_mem_nil,or_false,forall_eq_or_imp,forall_eq]
      refine ⟨?_,hb⟩
      rw [whenF_zero (by decide),Bool.or_eq_false_iff,decide_eq_false_iff_not,decide_eq_false_iff_not]
      omega
    have e2:pl2 b (natI o) ((k:Int),to es k,fr es (k + 1)) = 0:=by
      unfold pl2
      rw [firstF_zero]
      simp only [List.mem_cons,List.not_mem_nil,or_false,forall_eq_or_imp,forall_eq]
      refine ⟨?_,?_⟩
      · rw [natI,orderE_nat ho.dif h8o];exact ho.fit
      · rw [whenF_zero (by decide),decide_eq_false_iff_not]
        omega
    rw [if_neg (by rw [e1];decide),if_neg (by rw [e2];decide)]
    exact hz2
  have hcs:plL' es (gi:Int) b (natI o) = fil es (plEn b (to es k) o o.length) k:=by
    unfold plL'
    rw [if_pos hpl,Int.toNat_natCast,hpg,hpe]
  refine ⟨k,rfl,?_⟩
  rw [hcs]
  have htl:∀ j,j ≤ o.length → 0 ≤ tL b.sp o j ∧ tL b.sp o j ≤ tL b.sp o o.length:=fun j hj=>by
    have a1:=hf.lnS_le (i:=0) (j:=j) (by omega) (by omega)
    have a2:=hf.lnS_le (i:=j) (j:=o.length) (by omega) (by omega)
    rw [lnS_pl (by omega),lnS_pl (by omega)] at a1
    rw [lnS_pl (by omega),lnS_pl (by omega)] at a2
    exact ⟨a1,a2⟩
  have hgaps:=hf.gaps
  rw [hl,lnS_pl (Nat.le_refl _),← hn] at hgaps
  refine ⟨hk,⟨by omega,hg,by omega⟩,⟨ho.dif.len,h8o⟩,hpl,hcs,hlen,hz2,fun i hi=>?_,fun j hj=>?_,fun i hi hi2=>?_,ho.le,htl,?_,?_,fun h0=>?_,fun h0=>?_⟩
  · have:=hf.same.fr (k:=i) (by omega)
    exact ⟨this.1.symm,this.2.symm⟩
  · rw [hf.fr2 (by omega),hf.to2 (by omega),lnS_pl (by omega),lnS_pl (by omega)]
    refine ⟨rfl,rfl,?_⟩
    have:=(hbo.spOk _ (nthS_mem (ho.dif.lt _ (nthN_mem hj)))).ln
    have:=hbo.ln _ (nthS_mem (ho.dif.lt _ (nthN_mem hj)))
    rw [tL]
    omega
  · obtain ⟨d,rfl⟩:∃ d,i = k + 1 + (plEn b (to es k) o o.length).length + d:=⟨i - (k + 1 + o.length),by omega⟩
    rw [hf.fr3 (by omega),hf.to3 (by omega),show k + 1 + (plEn b (to es k) o o.length).length + d - o.length = k + 1 + d by omega]
    exact ⟨rfl,rfl⟩
  · rw [hlen];exact hgaps.1
  · rw [hlen,hgi];exact hgaps.2
  · have e:o = []:=List.length_eq_zero_iff.1 h0
    subst e
    have e2:plEn b (to es k) [] ([]:List Nat).length = []:=rfl
    rw [e2,fil_nil]
    refine chX_eq (.inr ⟨?_,.inr ⟨rfl,fun n=>?_⟩⟩)
    · unfold chE
      rw [hz];rfl
    · unfold dfB;simp
  · have:=hf.ch (Sound.of hz2) (by omega)
    rw [hl,lnS_pl (Nat.le_refl _)] at this
    refine chX_eq (.inr ⟨?_,.inl ⟨_,_,rfl,this⟩⟩)
    unfold chE
    rw [hz,hz2];rfl
end Go.Proofs.A1
