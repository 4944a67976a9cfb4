/- Parts of the proof: UQp DVp. -/
import Derived.Test.YthhidjfahmcekaaDoorPM08
import Derived.Test.YthhidjfahmcekaaDoorPM07
import Derived.Test.YthhidjfahmcekaaDoorPM12
import Derived.Test.YthhidjfahmcekaaDoorPM11
set_option linter.unusedSectionVars false
set_option linter.unusedVariables false
set_option linter.unusedSimpArgs false
namespace Go.Proofs.A1
open Go Go.SL
theorem bt_ofNat {s:ByteArray} {i:Nat} (h:i < s.data.toList.length):UInt8.ofNat (bt s i).toNat = s.data.toList[i]:=by
  unfold bt
  rw [List.getElem?_eq_getElem h,Option.getD_some,Int.toNat_natCast]
  exact UInt8.ofNat_toNat
theorem strB_all (s:ByteArray):strB ((List.range s.size).map (bt s)) = s:=by
  apply ByteArray.ext
  apply Array.ext'
  show ((List.range s.size).map (bt s)).map _ = s.data.toList
  have hl:s.data.toList.length = s.size:=rfl
  refine List.ext_getElem (by simp [hl]) fun i h1 h2=>?_
  rw [List.getElem_map,List.getElem_map,List.getElem_range]
  exact bt_ofNat h2
theorem snt_low {s:ByteArray} (h:sntE s = 0):∀ k,k < s.size → 0 ≤ bt s k ∧ bt s k < 128:=by
  intro k hk
  unfold sntE at h
  by_cases h4:4000 < s.size
  · rw [if_pos h4] at h;cases h
  · rw [if_neg h4] at h
    cases hb:hiB s with
    | true=>rw [hb,if_pos rfl] at h;cases h
    | false=>exact ⟨by unfold bt;omega,hiB_false hb k hk⟩
theorem sntL_eq {s:ByteArray} (h:sntE s = 0):sntL s = sntK s s.size:=by unfold sntL;rw [if_pos h]
theorem sntK_get {s:ByteArray} {k j:Nat} (h:k < j):(sntK s j).getD k 0 = sntB (bt s k):=by
  unfold sntK
  rw [List.getD_eq_getElem?_getD,List.getElem?_map,List.getElem?_range h];rfl
theorem snt_bytes {s:ByteArray} (h:sntE s = 0):∀ x ∈ sntK s s.size,0 ≤ x ∧ x ≤ 255:=by
  intro x hx
  unfold sntK at hx
  obtain ⟨k,hk,rfl⟩:=List.mem_map.1 hx
  exact ⟨(hrd_snt (snt_low h k (List.mem_range.1 hk))).2.2.1,(hrd_snt (snt_low h k (List.mem_range.1 hk))).2.2.2⟩
theorem hrd_sent {s:ByteArray} (h:sntE s = 0):hrdT (sntK s s.size) = (List.range s.size).map (bt s) ∧ hrdW (sntK s s.size) s.size = []:=by
  refine ⟨?_,?_⟩
  · unfold hrdT sntK
    rw [List.map_map]
    exact List.map_congr_left fun k hk=>(hrd_snt (snt_low h k (List.mem_range.1 hk))).1
  · unfold hrdW
    rw [List.filter_eq_nil_iff]
    intro k hk
    rw [sntK_get (List.mem_range.1 hk),(hrd_snt (snt_low h k (List.mem_range.1 hk))).2.1]
    decide
theorem hrd_wrong {s:ByteArray} (h:sntE s = 0) {k b:Nat} (hk:k < s.size) (hb:b < 8) :
    hrdT ((sntK s s.size).set k (xorF ((sntK s s.size).getD k 0) ((2 ^ b:Nat):Int))) = ((List.range s.size).map (bt s)).set k 63 ∧ hrdW ((sntK s s.size).set k (xorF ((sntK s s.size).getD k 0) ((2 ^ b:Nat):Int))) s.size = [k]:=by
  have ho:=hrd_snt (snt_low h k hk)
  rw [sntK_get hk]
  obtain ⟨y,hy,hye⟩:=byte_nat ⟨ho.2.2.1,ho.2.2.2⟩
  have hx:oddB (xorF (sntB (bt s k)) ((2 ^ b:Nat):Int)) = false:=by
    rw [hye,oddX y hy b hb,← hye,ho.2.1];rfl
  refine ⟨?_,?_⟩
  · unfold hrdT
    rw [List.map_set]
    have h63:hrdB (xorF (sntB (bt s k)) ((2 ^ b:Nat):Int)) = 63:=by unfold hrdB;rw [hx];rfl
    rw [h63]
    congr 1
    exact (hrd_sent h).1
  · unfold hrdW
    have hf:∀ i,i < s.size → (!oddB (((sntK s s.size).set k (xorF (sntB (bt s k)) ((2 ^ b:Nat):Int))).getD i 0)) = decide (i = k):=fun i hi=>by
      rw [List.getD_eq_getElem?_getD,List.getElem?_set,sntK_len]
      by_cases e:k = i
      · subst e
        rw [if_pos rfl,if_pos hi,Option.getD_some,hx,decide_eq_true rfl];rfl
      · rw [if_neg e,← List.getD_eq_getElem?_getD,sntK_get hi,(hrd_snt (snt_low h i hi)).2.1,decide_eq_false (fun h=>e h.symm)];rfl
    rw [List.filter_congr (q:=fun i=>decide (i = k)) (fun i hi=>hf i (List.mem_range.1 hi))]
    refine inc_uniq (List.Pairwise.filter _ List.pairwise_lt_range) (List.pairwise_singleton _ _) fun x=>?_
    rw [List.mem_filter,List.mem_range,List.mem_singleton,decide_eq_true_eq]
    exact ⟨fun h=>h.2,fun h=>⟨by omega,h⟩⟩
theorem strB_set {s:ByteArray} {k:Nat} (hk:k < s.size):strB (((List.range s.size).map (bt s)).set k 63) = s.extract 0 k++⟨#[63]⟩++s.extract (k + 1) s.size:=by
  apply ByteArray.ext
  apply Array.ext'
  have hl:s.data.toList.length = s.size:=rfl
  have h0:(((List.range s.size).map (bt s)).map fun n=>UInt8.ofNat n.toNat) = s.data.toList:=by
    refine List.ext_getElem (by simp [hl]) fun i h1 h2=>?_
    rw [List.getElem_map,List.getElem_map,List.getElem_range]
    exact bt_ofNat h2
  show ((((List.range s.size).map (bt s)).set k 63).map fun n=>UInt8.ofNat n.toNat) = _
  rw [List.map_set,h0]
  have e1:(s.extract 0 k++⟨#[63]⟩++s.extract (k + 1) s.size).data.toList = s.data.toList.take k++[63]++s.data.toList.drop (k + 1):=by
    have a1:(s.extract 0 k).data.toList = s.data.toList.take k:=by simp [ByteArray.data_extract]
    have a2:(s.extract (k + 1) s.size).data.toList = s.data.toList.drop (k + 1):=by
      rw [ByteArray.data_extract,Array.toList_extract]
      simp only [List.extract_eq_take_drop]
      rw [List.take_of_length_le (by rw [List.length_drop,hl];omega)]
    rw [ByteArray.data_append,ByteArray.data_append,Array.toList_append,Array.toList_append,a1,a2]
  rw [e1,List.set_eq_take_append_cons_drop,if_pos (by rw [hl];exact hk)]
  simp
end Go.Proofs.A1
namespace Go.Proofs.A1
open Go Go.SL
theorem setCells_cons {a:Value}:∀ {vs cs:List Value} {o:Nat},setCells (a :: cs) (o + 1) vs = a :: setCells cs o vs
  | [],_,_=>rfl
  | v :: vs, cs, o => by
    rw [setCells,setCells,List.set_cons_succ,setCells_cons]
theorem setCells_two {a b:Value} {vs cs:List Value} (h:vs.length ≤ cs.length):setCells (a :: b :: cs) 2 vs = a :: b :: (vs++cs.drop vs.length):=by
  rw [show 2 = 1 + 1 from rfl,setCells_cons,show 1 = 0 + 1 from rfl,setCells_cons]
  congr 2
  apply List.ext_getElem?
  intro k
  rw [setCells_get _ _ _ _ (by omega)]
  by_cases hk:k < vs.length
  · rw [if_pos (by omega),List.getElem?_append_left hk,Nat.sub_zero]
  · rw [if_neg (by omega),List.getElem?_append_right (by omega),List.getElem?_drop,show vs.length + (k - vs.length) = k by omega]
theorem chnk_cells {a b:Value} {D:List Int} (j:Nat):setCells (a :: b :: List.replicate 10 (.int .u8 0)) 2 (wcells ((D.drop (10 * j)).take 10)) = a :: b :: wcells (chnk D j):=by
  have hl:(wcells ((D.drop (10 * j)).take 10)).length = min 10 (D.length - 10 * j):=by rw [List.length_map,List.length_take,List.length_drop]
  rw [setCells_two (by rw [hl,List.length_replicate];omega),hl]
  congr 2
  unfold chnk
  rw [wcells_app]
  congr 1
  rw [List.drop_replicate]
  show _ = List.map _ (List.replicate _ _)
  rw [List.map_replicate]
  congr 1
  omega
theorem byts_part {K:List Int} {l:Nat}:((((byts K).take K.length).drop l).take 10).flatten = wcells ((K.drop l).take 10):=by
  have e:(byts K).take K.length = byts K:=List.take_of_length_le (by rw [byts_length];exact Nat.le_refl _)
  rw [e]
  have:((byts K).drop l).take 10 = byts ((K.drop l).take 10):=by unfold byts;rw [List.map_take,List.map_drop]
  rw [this,← byts_flat,bytsV_wcS]
theorem chnk_at {a b:Value} {K:List Int} {k j:Nat} (hk:k < K.length) (hj:k / 10 = j):(a :: b :: wcells (chnk K j))[2 + k % 10 * 1]? = some (.int .u8 (K.getD k 0)):=by
  have hi:k % 10 < (chnk K j).length:=by rw [chnk_len];omega
  rw [show 2 + k % 10 * 1 = k % 10 + 1 + 1 by omega,List.getElem?_cons_succ,List.getElem?_cons_succ,List.getElem?_map,List.getElem?_eq_getElem hi,chnk_get (by omega) (by omega),List.getD_eq_getElem?_getD,List.getElem?_eq_getElem hk]
  have e:10 * j + k % 10 = k:=by omega
  simp only [e];rfl
theorem chnk_put {a b:Value} {K:List Int} {k j:Nat} {v:Int} (hk:k < K.length) (hj:k / 10 = j):setCells (a :: b :: wcells (chnk K j)) (2 + k % 10 * 1) [.int .u8 v] = a :: b :: wcells (chnk (K.set k v) j):=by
  rw [chnk_set hk,if_pos hj,show 2 + k % 10 * 1 = k % 10 + 1 + 1 by omega,setCells_cons,setCells_cons]
  congr 2
  show (List.map _ _).set _ _ = List.map _ _
  rw [List.map_set]
theorem chnk_fit {a b:Value} {K:List Int} {k j:Nat}:2 + k % 10 * 1 + 1 ≤ (a :: b :: wcells (chnk K j)).length:=by
  rw [List.length_cons,List.length_cons,List.length_map,chnk_len];omega
def pkOf (D:List Int) (j:Nat):Pk:=⟨6,j,(chnk D j).getD 0 0,(chnk D j).getD 1 0,(chnk D j).getD 2 0,(chnk D j).getD 3 0,(chnk D j).getD 4 0,(chnk D j).getD 5 0,(chnk D j).getD 6 0,(chnk D j).getD 7 0,(chnk D j).getD 8 0,(chnk D j).getD 9 0⟩
theorem tenD {F:List Int} (h:F.length = 10):F = [F.getD 0 0,F.getD 1 0,F.getD 2 0,F.getD 3 0,F.getD 4 0,F.getD 5 0,F.getD 6 0,F.getD 7 0,F.getD 8 0,F.getD 9 0]:=by
  match F,h with
  | [f0,f1,f2,f3,f4,f5,f6,f7,f8,f9],_=>rfl
theorem pkOf_D (D:List Int) (j:Nat):(pkOf D j).D = chnk D j:=(tenD (chnk_len D j)).symm
def pkL (D:List Int) (n:Nat):List Pk:=(List.range n).map (pkOf D)
theorem pkL_len (D:List Int) (n:Nat):(pkL D n).length = n:=by simp [pkL]
theorem pkL_succ (D:List Int) (n:Nat):pkL D (n + 1) = pkL D n++[pkOf D n]:=by unfold pkL;rw [List.range_succ,List.map_append];rfl
theorem pkL_get {D:List Int} {n j:Nat} (h:j < n):(pkL D n)[j]'(by rw [pkL_len];exact h) = pkOf D j:=by simp [pkL]
theorem pkL_ok {D:List Int} (hD:∀ x ∈ D,0 ≤ x ∧ x ≤ 255) {n:Nat} (hn:n ≤ 255):∀ x ∈ pkL D n,x.Ok:=by
  intro x hx
  obtain ⟨j,hj,rfl⟩:=List.mem_map.1 hx
  have hj:=List.mem_range.1 hj
  exact ⟨⟨by show (0:Int) ≤ 6;omega,by show (6:Int) ≤ 255;omega⟩,⟨by show (0:Int) ≤ (j:Nat);omega,by show ((j:Nat):Int) ≤ 255;omega⟩,by rw [pkOf_D];exact chnk_byte hD j⟩
theorem xorF_zero {a:Int} (h:0 ≤ a ∧ a ≤ 255):xorF a 0 = a:=by
  have:∀ k:Nat,k < 256 → xorF (k:Int) 0 = (k:Int):=by decide +kernel
  obtain ⟨k,hk,rfl⟩:=byte_nat h
  exact this k hk
theorem pksV_at:∀ (L:List Pk) (q:Nat) (h:q < L.length) (cur:List Value),cellsAt (pksV L++cur) (q * 12) 12 = L[q].cells
  | x :: r, 0, _, cur => by
    rw [cellsAt_eq,Nat.zero_mul,List.drop_zero]
    unfold pksV
    rw [List.flatMap_cons,List.append_assoc,List.take_append_of_le_length (by show 12 ≤ 12;omega),List.take_of_length_le (by show 12 ≤ 12;omega)]
    rfl
  | x :: r, q + 1, h, cur => by
    have ih:=pksV_at r q (by rw [List.length_cons] at h;omega) cur
    rw [List.getElem_cons_succ,← ih,cellsAt_eq,cellsAt_eq]
    unfold pksV
    rw [List.flatMap_cons,List.append_assoc,show (q + 1) * 12 = x.cells.length + q * 12 by show _ = 12 + _;omega,List.drop_append,List.drop_of_length_le (by omega:x.cells.length ≤ x.cells.length + q * 12),Nat.add_sub_cancel_left,List.nil_append]
theorem byts_fore {D:List Int} {n:Nat} (h:D.length ≤ 10 * n):((byts (chnkL D n)).take D.length).drop 0 = byts D:=by
  rw [List.drop_zero]
  have:(byts (chnkL D n)).take D.length = byts ((chnkL D n).take D.length):=by unfold byts;rw [List.map_take]
  rw [this,chnkL_take h]
theorem ped_heard {s:ByteArray} (h:sntE s = 0) {k b:Nat} (hk:k < s.size) (hb:b < 8) (h4:¬ 4000 < s.size) {B:Int} (hB:B = 0 ∨ B = ((2 ^ b:Nat):Int)) {D:List Int} (hD:D = (sntK s s.size).set k (xorF ((sntK s s.size).getD k 0) B)) :
    hrdE D.length = 0 ∧ (B = 0 → hrdX D = s ∧ hrdL D = []) ∧ (B ≠ 0 → hrdX D = s.extract 0 k++⟨#[63]⟩++s.extract (k + 1) s.size ∧ hrdL D = [k]):=by
  have hl:D.length = s.size:=by rw [hD,List.length_set,sntK_len]
  have hz:hrdE D.length = 0:=by unfold hrdE;rw [if_neg (by omega)]
  refine ⟨hz,fun h0=>?_,fun h0=>?_⟩
  · have hby:0 ≤ (sntK s s.size).getD k 0 ∧ (sntK s s.size).getD k 0 ≤ 255:=by
      rw [List.getD_eq_getElem?_getD,List.getElem?_eq_getElem (by rw [sntK_len];exact hk)]
      exact snt_bytes h _ (List.getElem_mem _)
    have hDD:D = sntK s s.size:=by
      rw [hD,h0,xorF_zero hby,List.getD_eq_getElem?_getD,List.getElem?_eq_getElem (by rw [sntK_len];exact hk)]
      exact List.set_getElem_self _
    obtain ⟨hT1,hW1⟩:=hrd_sent h
    rw [← hDD] at hT1 hW1
    refine ⟨?_,?_⟩
    · unfold hrdX;rw [if_pos hz,hT1,strOf_strB];exact strB_all s
    · unfold hrdL;rw [if_pos hz,hl];exact hW1
  · have hB':=hB.resolve_left h0
    obtain ⟨hT2,hW2⟩:=hrd_wrong h hk hb
    rw [← hB',← hD] at hT2 hW2
    refine ⟨?_,?_⟩
    · unfold hrdX;rw [if_pos hz,hT2,strOf_strB];exact strB_set hk
    · unfold hrdL;rw [if_pos hz,hl];exact hW2
theorem strB_snoc (l:List Int) (b:Int):strB (l++[b]) = strB l++⟨#[UInt8.ofNat b.toNat]⟩:=by
  apply ByteArray.ext
  apply Array.ext'
  show (List.map _ (l++[b])) = (strB l++(⟨#[UInt8.ofNat b.toNat]⟩:ByteArray)).data.toList
  rw [ByteArray.data_append,Array.toList_append,List.map_append]
  rfl
theorem ext_one {s:ByteArray} {k:Nat} (h:k < s.size):s.extract k (k + 1) = ⟨#[UInt8.ofNat (bt s k).toNat]⟩:=by
  apply ByteArray.ext
  apply Array.ext'
  have hk:k < s.data.toList.length:=h
  rw [ByteArray.data_extract,Array.toList_extract,List.extract_eq_take_drop,show k + 1 - k = 1 by omega,List.drop_eq_getElem_cons hk,List.take_succ_cons,List.take_zero,bt_ofNat hk]
def wntS (x:Cp) (f r:Int) (t:Nat):ByteArray:=strB ((List.range t).map (shB [x] f r))
theorem wnt_succ (x:Cp) (f r:Int) (t:Nat):wntS x f r (t + 1) = wntS x f r t++⟨#[UInt8.ofNat (shB [x] f r t).toNat]⟩:=by
  unfold wntS;rw [List.range_succ,List.map_append,List.map_singleton,strB_snoc]
theorem wnt_size (x:Cp) (f r:Int) (t:Nat):(wntS x f r t).size = t:=by unfold wntS;rw [strB_size,List.length_map,List.length_range]
theorem wnt_all (x:Cp) (f r:Int):wntS x f r 32 = strB (rowB [x] f r):=rfl
theorem wnt_in {x:Cp} {f r:Int} {t:Nat} (h0:x.fr ≤ f) (h1:r = x.rw) (h2:f < x.to) (h3:0 ≤ (t:Int) - x.co) (h4:(t:Int) - x.co < (x.tx.size:Nat)) :
    wntS x f r (t + 1) = wntS x f r t++x.tx.extract ((t:Int) - x.co).toNat (((t:Int) - x.co).toNat + 1):=by
  rw [wnt_succ,ext_one (by omega)]
  have:shB [x] f r t = bt x.tx ((t:Int) - x.co).toNat:=by
    show shS f r t 32 x = _
    unfold shS cov onC
    rw [if_pos (by simp only [Bool.and_eq_true,decide_eq_true_eq];omega)]
  rw [this]
theorem wnt_out {x:Cp} {f r:Int} {t:Nat} (h:¬ (r = x.rw ∧ f < x.to ∧ 0 ≤ (t:Int) - x.co ∧ (t:Int) - x.co < (x.tx.size:Nat))):wntS x f r (t + 1) = wntS x f r t++⟨#[32]⟩:=by
  rw [wnt_succ]
  have:shB [x] f r t = 32:=by
    show shS f r t 32 x = _
    unfold shS cov onC
    rw [if_neg (by simp only [Bool.and_eq_true,decide_eq_true_eq];omega)]
  rw [this];rfl
end Go.Proofs.A1
