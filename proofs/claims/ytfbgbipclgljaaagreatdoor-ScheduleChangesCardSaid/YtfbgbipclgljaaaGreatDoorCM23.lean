/- Parts of the proof: Q3p. -/
import Derived.Test.YtfbgbipclgljaaaGreatDoorCM22
set_option linter.unusedSectionVars false
set_option linter.unusedVariables false
set_option linter.unusedSimpArgs false
/- Q3p -/
/- Changes: the errors of the program and those of the reference are the same. Plain Lean. -/
namespace Go.Proofs.A1
theorem firstF_c1 (a : Int) (l : List Int) : firstF (a :: l) = if a = 0 then firstF l else a := by
  by_cases h : a = 0
  · rw [if_pos h, h]; rfl
  · rw [if_neg h]; simp [firstF, h]
theorem firstF_n : firstF [] = 0 := rfl
/-- the law's first error: the schedule, the frame now -/
def cgE (es : List En) (now : Int) : Int := firstF [chkF es, withinF now 0 10000000]
/-- the law's error of an index -/
def ixE (at' below : Int) : Int := whenF (decide (at' < 0) || decide (below ≤ at')) 10
def ix2 (at' n : Int) : Int := whenF (decide (at' < 0) || decide (n < at')) 10
theorem ccF_cg (es : List En) (now at' below : Int) : ccF es now at' below = firstF [cgE es now, ixE at' below] := by
  unfold ccF cgE ixE
  simp only [firstF_c1, firstF_n, ge_iff_le]
  by_cases h1 : chkF es = 0 <;> by_cases h2 : withinF now 0 10000000 = 0 <;> simp [h1, h2]
theorem ix2_eq (at' n : Int) : ixE at' (n + 1) = ix2 at' n := by
  unfold ixE ix2
  rw [decide_eq_decide.2 (show n + 1 ≤ at' ↔ n < at' by omega)]
theorem in0_eq (es : List En) (now at' : Int) (x : En) : in0 es now at' x = firstF [cgE es now, ix2 at' es.length, entF x] := by
  rw [in0, ccF_cg, ix2_eq]
  simp only [firstF_c1, firstF_n]
  by_cases h1 : cgE es now = 0 <;> by_cases h2 : ix2 at' es.length = 0 <;> simp [h1, h2]
theorem rt0_eq (es : List En) (now at' : Int) (kd : ByteArray) (tm : Int) : rt0 es now at' kd tm = firstF [cgE es now, ixE at' es.length, startF kd tm] := by
  rw [rt0, ccF_cg]
  simp only [firstF_c1, firstF_n]
  by_cases h1 : cgE es now = 0 <;> by_cases h2 : ixE at' es.length = 0 <;> simp [h1, h2]
theorem cg_ok {es : List En} {now at' below : Int} (h : ccF es now at' below = 0) : Sound es ∧ 0 ≤ at' ∧ at' < below := by
  obtain ⟨h1, _, h3, h4⟩ := ccF_zero h
  exact ⟨Sound.of h1, h3, h4⟩
theorem in_ok {es : List En} {now at' : Int} {x : En} (h : in0 es now at' x = 0) : Sound es ∧ 0 ≤ at' ∧ at' ≤ es.length := by
  unfold in0 at h
  rw [firstF_zero] at h
  have := cg_ok (h (ccF es now at' (es.length + 1)) (by simp))
  exact ⟨this.1, this.2.1, by omega⟩
theorem rt_ok {es : List En} {now at' : Int} {kd : ByteArray} {tm : Int} (h : rt0 es now at' kd tm = 0) : Sound es ∧ 0 ≤ at' ∧ at' < es.length := by
  unfold rt0 at h
  rw [firstF_zero] at h
  exact cg_ok (h (ccF es now at' es.length) (by simp))
theorem inE_bad {es : List En} {now at' : Int} {x : En} (h : in0 es now at' x ≠ 0) : inE es now at' x = in0 es now at' x := by rw [inE, if_pos h]
theorem inE_ok {es : List En} {now at' : Int} {x : En} (h : in0 es now at' x = 0) : inE es now at' x = insE es now at'.toNat x := by
  have h0 := (in_ok h).2.1
  rw [inE, if_neg (by rw [h]; decide), insE]
  by_cases hc : at'.toNat < es.length ∧ fr es at'.toNat ≤ now
  · rw [if_pos hc, if_pos ⟨by omega, hc.2⟩]
  · rw [if_neg hc, if_neg (fun h => hc ⟨by omega, h.2⟩)]
theorem inL_eq (es : List En) (now at' : Int) (x : En) : inL es now at' x = if inE es now at' x = 0 then chg es at'.toNat at'.toNat [x] else [] := rfl
theorem inL_ok {es : List En} {now at' : Int} {x : En} (h : in0 es now at' x = 0) : inL es now at' x = insL es now at'.toNat x := by
  rw [inL, inE_ok h, insL]
theorem inL_bad {es : List En} {now at' : Int} {x : En} (h : inE es now at' x ≠ 0) : inL es now at' x = [] := by rw [inL, if_neg h]
theorem rmE_bad {es : List En} {now at' : Int} (h : ccF es now at' es.length ≠ 0) : rmE es now at' = ccF es now at' es.length := by rw [rmE, if_pos h]
theorem rmE_ok {es : List En} {now at' : Int} (h : ccF es now at' es.length = 0) : rmE es now at' = delE es now at'.toNat := by
  have h0 := (cg_ok h).2
  rw [rmE, if_neg (by rw [h]; decide), delE]
  have : at'.toNat < es.length := by omega
  by_cases hf : fr es at'.toNat ≤ now
  · rw [if_pos hf, if_pos ⟨this, hf⟩]
  · rw [if_neg hf, if_neg (fun h => hf h.2)]
theorem rmL_ok {es : List En} {now at' : Int} (h : ccF es now at' es.length = 0) : rmL es now at' = delL es now at'.toNat := by
  rw [rmL, rmE_ok h, delL]
theorem rmL_bad {es : List En} {now at' : Int} (h : rmE es now at' ≠ 0) : rmL es now at' = [] := by rw [rmL, if_neg h]
theorem rtE_bad {es : List En} {now at' : Int} {kd : ByteArray} {tm : Int} (h : rt0 es now at' kd tm ≠ 0) : rtE es now at' kd tm = rt0 es now at' kd tm := by rw [rtE, if_pos h]
theorem rtE_ok {es : List En} {now at' : Int} {kd : ByteArray} {tm : Int} (h : rt0 es now at' kd tm = 0) : rtE es now at' kd tm = timE es now at'.toNat kd tm := by
  have h0 := (rt_ok h).2
  rw [rtE, if_neg (by rw [h]; decide), timE]
  have : at'.toNat < es.length := by omega
  by_cases hf : fr es at'.toNat ≤ now
  · rw [if_pos hf, if_pos ⟨this, hf⟩]
  · rw [if_neg hf, if_neg (fun h => hf h.2)]
theorem rtL_ok {es : List En} {now at' : Int} {kd : ByteArray} {tm : Int} (h : rt0 es now at' kd tm = 0) : rtL es now at' kd tm = timL es now at'.toNat kd tm := by
  rw [rtL, rtE_ok h, timL]
theorem rtL_bad {es : List En} {now at' : Int} {kd : ByteArray} {tm : Int} (h : rtE es now at' kd tm ≠ 0) : rtL es now at' kd tm = [] := by rw [rtL, if_neg h]
theorem lateE_len {es : List En} {now : Int} {k : Nat} (h : lateE es now k = 0) : es.length ≤ 1000 := by
  unfold lateE at h
  split at h
  · rename_i h1; exact absurd h h1
  · rename_i h1; exact Nat.le_trans (Sound.of (Decidable.not_not.1 h1)).all.few (by decide)
theorem inL_len (es : List En) (now at' : Int) (x : En) : (inL es now at' x).length ≤ 1000 := by
  by_cases h : inE es now at' x = 0
  · rw [inL_eq, if_pos h]
    unfold inE at h
    split at h
    · rename_i h1; exact absurd h h1
    · split at h
      · exact absurd h (by decide)
      · exact lateE_len h
  · rw [inL_bad h]; exact Nat.zero_le _
theorem rmL_len (es : List En) (now at' : Int) : (rmL es now at').length ≤ 1000 := by
  by_cases h : rmE es now at' = 0
  · rw [rmL, if_pos h]
    unfold rmE at h
    split at h
    · rename_i h1; exact absurd h h1
    · split at h
      · exact absurd h (by decide)
      · exact lateE_len h
  · rw [rmL_bad h]; exact Nat.zero_le _
theorem rtL_len (es : List En) (now at' : Int) (kd : ByteArray) (tm : Int) : (rtL es now at' kd tm).length ≤ 1000 := by
  by_cases h : rtE es now at' kd tm = 0
  · rw [rtL, if_pos h]
    unfold rtE at h
    split at h
    · rename_i h1; exact absurd h h1
    · split at h
      · exact absurd h (by decide)
      · exact lateE_len h
  · rw [rtL_bad h]; exact Nat.zero_le _
end Go.Proofs.A1

