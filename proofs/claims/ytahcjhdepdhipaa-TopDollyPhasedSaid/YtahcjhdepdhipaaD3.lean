/- Part of the proof: D3. -/
import Derived.Test.YtahcjhdepdhipaaD2
import Derived.Test.YtahcjhdepdhipaaGkFin
set_option linter.unusedSectionVars false
set_option linter.unusedVariables false
set_option linter.unusedSimpArgs false
namespace Go.Proofs.A1
open Go Go.SL

theorem rdBlkF {c : Cx} {hs hs' : List Asn} {w : World} (hm : Mem c hs w) {b n sz : Nat} {cs : List Value} {rows : List (List Value)} {E : TypeId} {fz : Nat × Nat} (ht : Take hs (SL.blk b (.cells cs.toArray E fz)) hs') (he : cs = rows.flatten) (hx : ∀ r ∈ rows, r.length = sz) (hn : rows.length = n) (hle : n ≤ 1000) :
    Rd w (.slice (some ⟨b, 0, none⟩) n n) sz rows := by
  subst he
  subst hn
  refine ⟨_, rows.length, b, 0, rfl, Nat.le_refl _, by unfold maxLen; omega, fun _ => rfl, fun i r hr => ⟨hx r (List.mem_of_getElem? hr), fun j u hu => ?_⟩⟩
  rw [cell_of_block (hm.blk ht)]
  have := flatten_get rows i hx hr hu
  simpa using this

def exN : List ByteArray := [⟨#[114, 101, 102]⟩, ⟨#[99, 97, 109]⟩, ⟨#[109, 105, 120]⟩]
def exE : List Ed := [⟨0, 1, 0, 3⟩, ⟨1, 2, 1, 2⟩, ⟨0, 2, 3, 3⟩]
theorem ex_net : netF exN exE = 0 := by kernel_rfl
theorem ex_good : Good 3 exE where
  pos := by omega
  most := by omega
  ed := by
    intro e he
    simp only [exE, List.mem_cons, List.not_mem_nil, or_false] at he
    rcases he with rfl | rfl | rfl <;> simp
theorem ex_none : (longest (lvs exE 3) 3 0).2 = none := by kernel_rfl
theorem ex_times : (List.range 3).map (times (longest (lvs exE 3) 3 0).1) = [0, 1, 3] := by kernel_rfl
theorem ex_time1 : times (longest (lvs exE 3) 3 0).1 1 = 1 := by kernel_rfl
theorem ex_lab : (longest (lvs exE 3) 3 1).1.lab 0 = some (-2) := by kernel_rfl

set_option maxHeartbeats 4000000 in
theorem phase_c (w : World) : GivesV Try.prog 6 [] w (.bool true) := by
  refine givesV_of_tr Try.func6 rfl rfl ?_
  (refine tr_seq ?_; refine tr_region ?_; refine tr_val (rk_assign (Is.of rfl)) rfl ?_; refine tr_nil ?_; refine tr_then ?_; refine tr_seq ?_; refine tr_region ?_; refine tr_new (rk_sliceLit (PartsS.cons (Is.of rfl) (PartsS.cons (Is.of rfl) (PartsS.cons (Is.of rfl) PartsS.nil))) rfl rfl rfl rfl) rfl (fun _ _ => ?_); refine tr_val (rk_buildL (Parts.cons (Is.of rfl) (Parts.cons (Is.of rfl) (Parts.cons (Is.of rfl) (Parts.cons (Is.of rfl) Parts.nil)))) norm_) rfl ?_; refine tr_val (rk_buildL (Parts.cons (Is.of rfl) (Parts.cons (Is.of rfl) (Parts.cons (Is.of rfl) (Parts.cons (Is.of rfl) Parts.nil)))) norm_) rfl ?_; refine tr_val (rk_buildL (Parts.cons (Is.of rfl) (Parts.cons (Is.of rfl) (Parts.cons (Is.of rfl) (Parts.cons (Is.of rfl) Parts.nil)))) norm_) rfl ?_; refine tr_new (rk_sliceLitN (Parts.cons (Is.of rfl) (Parts.cons (Is.of rfl) (Parts.cons (Is.of rfl) Parts.nil))) rfl rfl normp_ normp_ norm_) rfl (fun _ _ => ?_); refine tr_val (rk_buildL (Parts.cons (Is.of rfl) (Parts.cons (Is.of rfl) Parts.nil)) norm_) rfl ?_; refine tr_new (rk_alloc rfl) rfl (fun _ _ => ?_); refine tr_store (Is.of rfl) (Is.of rfl) Take.here rfl rfl (okc_cons rfl (okc_cons rfl okc_nil)) (lenb rfl) norm_ ?_; refine tr_nil ?_; refine tr_then ?_; refine tr_seq ?_; refine tr_region ?_; refine tr_val (rk_loadB (Is.of rfl) Take.here norm_ (by rfl)) rfl ?_)
  rename_i bn hbn be hbe bx hbx
  have hnet : ∀ {hs hs1 hs2 : List Asn} {w' : World}, Mem ⟨w, [], Try.f6.ntmps⟩ hs w' → Take hs (blk bn (.cells #[.string ⟨#[114, 101, 102]⟩, .string ⟨#[99, 97, 109]⟩, .string ⟨#[109, 105, 120]⟩] 9 (0, 0))) hs1 →
      Take hs (blk be (.cells #[.int .i64 0, .int .i64 1, .int .i64 0, .int .i64 3, .int .i64 1, .int .i64 2, .int .i64 1, .int .i64 2, .int .i64 0, .int .i64 2, .int .i64 3, .int .i64 3] 52 (0, 0))) hs2 →
      NetM w' (.slice (some ⟨bn, 0, none⟩) 3 3) (.slice (some ⟨be, 0, none⟩) 3 3) exN exE := fun hm' t1 t2 =>
    ⟨Mem.rdBlk hm' t1 rfl rfl, rdBlkF (rows := edgesL exE) hm' t2 rfl (fun r hr => by obtain ⟨e, _, rfl⟩ := List.mem_map.1 hr; rfl) rfl (by omega)⟩
  with_reducible apply tr_call
  case hr => exact rk_call (Is.of rfl) (Iss.cons (Is.of rfl) Iss.nil) inferInstance normc_
  case hd => rfl
  case ht => exact Takes.nil
  case hc =>
    intro w1 fp hm1 _ hs1
    obtain rfl : fp = [] := hs1
    exact plan_yes (V := 3) (hnet hm1 (by exact Take.there (Take.there Take.here)) (by exact Take.there Take.here)) ex_net rfl ex_good (by decide) ex_none
  intro vp _
  dsimp only [List.cons_append, List.nil_append]
  rw [ex_times]
  refine tr_rowOpen (by exact Take.here) (by omega) ?_
  rintro gp cap cur rfl hcap hmx hsz hxl
  simp only [List.map_cons, List.map_nil, List.cons_append, List.nil_append]
  (refine tr_val (rk_move (Is.of rfl)) rfl ?_; refine tr_val (rk_extract (Is.of rfl) rfl) rfl ?_; refine tr_val (rk_extract (Is.of rfl) rfl) rfl ?_; refine tr_val (rk_assign (Is.of rfl)) rfl ?_; refine tr_val (rk_assign (Is.of rfl)) rfl ?_; refine tr_nil ?_; refine tr_then ?_; refine tr_seq ?_; refine tr_region ?_; refine tr_val (rk_loadB (Is.of rfl) (Take.there Take.here) norm_ (by rfl)) rfl ?_)
  with_reducible apply tr_callV
  case hr => exact rk_call (Is.of rfl) (Iss.cons (Is.of rfl) (Iss.cons (Is.of rfl) Iss.nil)) inferInstance normc_
  case hd => rfl
  case hc =>
    intro w' hm'
    exact window_c (V := 3) (m := 1) (hnet hm' (by exact Take.there (Take.there (Take.there Take.here))) (by exact Take.there (Take.there Take.here))) ex_net rfl ex_good (by decide) (by omega) ex_none
  rw [ex_lab, ex_time1]
  try dsimp only
  (refine tr_val (rk_move (Is.of rfl)) rfl ?_; refine tr_val (rk_extract (Is.of rfl) rfl) rfl ?_; refine tr_val (rk_extract (Is.of rfl) rfl) rfl ?_; refine tr_new (rk_alloc rfl) rfl (fun _ _ => ?_); refine tr_store (Is.of rfl) (Is.of rfl) Take.here rfl rfl (okc_cons rfl (okc_cons rfl okc_nil)) (lenb rfl) norm_ ?_; refine tr_val (rk_assign (Is.of rfl)) rfl ?_; refine tr_nil ?_; refine tr_then ?_; refine tr_seq ?_; refine tr_region ?_; refine tr_val (rk_move (Is.of rfl)) rfl ?_; refine tr_val (rk_eql (Is.of rfl) (Is.of rfl)) rfl ?_; refine tr_val (rk_move (Is.of rfl)) rfl ?_; refine tr_vG1 rfl rfl inferInstance (fun hg hgp => (rk_move (Is.of rfl))) rfl ?_; refine tr_vG1 rfl rfl inferInstance (fun hg hgp => (rk_eql (Is.ofg hg rfl) (Is.of rfl))) rfl ?_; refine tr_val (rk_pick_and (Is.of rfl) rfl) rfl ?_; refine tr_val (rk_move (Is.of rfl)) rfl ?_; refine tr_vG1 rfl rfl inferInstance (fun hg hgp => (rk_move (Is.of rfl))) rfl ?_; refine tr_vG1 rfl rfl inferInstance (fun hg hgp => (rk_len_slice (Is.ofg hg rfl))) rfl ?_; refine tr_vG1 rfl rfl inferInstance (fun hg hgp => (rk_eql (Is.ofg hg rfl) (Is.of rfl))) rfl ?_; refine tr_val (rk_pick_and (Is.of rfl) rfl) rfl ?_; refine tr_val (rk_move (Is.of rfl)) rfl ?_; refine tr_vG1 rfl rfl inferInstance (fun hg hgp => (rk_move (Is.of rfl))) rfl ?_; refine tr_vG1 rfl rfl inferInstance (fun hg hgp => (rk_indexAddr (Is.ofg hg rfl) (Is.of rfl) rfl (by omega) (by omega) norm1_)) rfl ?_; refine tr_vG1 rfl rfl inferInstance (fun hg hgp => (rk_load1 (Is.ofg hg rfl) (At.lit (Take.there Take.here) rfl))) rfl ?_; refine tr_vG1 rfl rfl inferInstance (fun hg hgp => (rk_eql (Is.ofg hg rfl) (Is.of rfl))) rfl ?_; refine tr_val (rk_pick_and (Is.of rfl) rfl) rfl ?_; refine tr_val (rk_move (Is.of rfl)) rfl ?_; refine tr_vG1 rfl rfl inferInstance (fun hg hgp => (rk_move (Is.of rfl))) rfl ?_; refine tr_vG1 rfl rfl inferInstance (fun hg hgp => (rk_indexAddr (Is.ofg hg rfl) (Is.of rfl) rfl (by omega) (by omega) norm1_)) rfl ?_; refine tr_vG1 rfl rfl inferInstance (fun hg hgp => (rk_load1 (Is.ofg hg rfl) (At.lit (Take.there Take.here) rfl))) rfl ?_; refine tr_vG1 rfl rfl inferInstance (fun hg hgp => (rk_eql (Is.ofg hg rfl) (Is.of rfl))) rfl ?_; refine tr_val (rk_pick_and (Is.of rfl) rfl) rfl ?_; refine tr_val (rk_move (Is.of rfl)) rfl ?_; refine tr_vG1 rfl rfl inferInstance (fun hg hgp => (rk_move (Is.of rfl))) rfl ?_; refine tr_vG1 rfl rfl inferInstance (fun hg hgp => (rk_indexAddr (Is.ofg hg rfl) (Is.of rfl) rfl (by omega) (by omega) norm1_)) rfl ?_; refine tr_vG1 rfl rfl inferInstance (fun hg hgp => (rk_load1 (Is.ofg hg rfl) (At.lit (Take.there Take.here) rfl))) rfl ?_; refine tr_vG1 rfl rfl inferInstance (fun hg hgp => (rk_eql (Is.ofg hg rfl) (Is.of rfl))) rfl ?_; refine tr_val (rk_pick_and (Is.of rfl) rfl) rfl ?_; refine tr_val (rk_move (Is.of rfl)) rfl ?_; refine tr_vG1 rfl rfl inferInstance (fun hg hgp => (rk_loadB (Is.of rfl) Take.here norm_ (by rfl))) rfl ?_; refine tr_vG1 rfl rfl inferInstance (fun hg hgp => (rk_buildL (Parts.cons (Is.of rfl) (Parts.cons (Is.of rfl) Parts.nil)) norm_)) rfl ?_; refine tr_vG1 rfl rfl inferInstance (fun hg hgp => (rk_eqlA (Is.ofg hg rfl) (Is.ofg hg rfl) (okL_int (okL_int okL_nil)) rfl)) rfl ?_; refine tr_val (rk_pick_and (Is.of rfl) rfl) rfl ?_; refine tr_val (rk_assign (Is.of rfl)) rfl ?_; refine tr_nil ?_; refine tr_then ?_; refine tr_ret ?_; refine tr_retE rfl (ends1 rfl rfl) ?_)
  rfl
end Go.Proofs.A1
