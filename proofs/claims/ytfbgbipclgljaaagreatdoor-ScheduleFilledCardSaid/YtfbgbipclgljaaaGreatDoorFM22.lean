/- Parts of the proof: SPost SOpen S73p S80p S81 TryzSort. -/
import Derived.Test.YtfbgbipclgljaaaGreatDoorFM21
import Derived.Test.YtfbgbipclgljaaaGreatDoorFM11
import Derived.Test.YtfbgbipclgljaaaGreatDoorFM13
import Derived.Test.YtfbgbipclgljaaaGreatDoorFM09
import Derived.Test.YtfbgbipclgljaaaGreatDoorFM06
import Derived.Shelf.Sort.Plain
import Derived.Shelf.Slices.CompactI
import Derived.Ground.NamesProg
import Derived.Ground.Names2Prog
import Derived.Test.YtfbgbipclgljaaaGreatDoorProg
set_option linter.unusedSectionVars false
set_option linter.unusedVariables false
set_option linter.unusedSimpArgs false
namespace Go.Proofs.YtfbgbipclgljaaaGreatDoor
open Go Go.SL Go.Proofs.A1 Go.ChangeShapes Go.WideShapes Go.ChangeAt Go.RowKit Go.Joins
section
variable {H:Type} {enc:TypeId × Value → H} {P:Program}
theorem post_of_below {f:Func} {s:ChangeSpec} {apart fresh handsOn again:Bool} {W W':World} {args:Array Value} {v:Value} {ds gs:List (DataW H)} {before pa pv:List MemPlace}
    (hW:DataW.Whole enc P f.params.toList s.vars apart W args.toList ds gs before)
    (hres:∀ (b:Nat) (sp:Nat → Bool) (hd:Bool),DataW.TrodAll enc P W' b sp hd f.resultTypes.toList (v.resultList f.resultTypes.size) (s.fn H (ds++gs)).results [])
    (hargs:∀ sp:Nat → Bool,(∀ p ∈ before,sp p.block = true) → DataW.TrodAll enc P W' 0 sp true f.params.toList args.toList (s.fn H (ds++gs)).args pa)
    (hvars:∀ sp:Nat → Bool,(∀ p ∈ before,sp p.block = true) → DataW.TrodVars enc P W' sp s.vars (s.fn H (ds++gs)).vars pv)
    (hps:before = pa++pv) (hb:Below W.heap.size W W')
    (hok:∀ (j:Nat) (t:TypeId) (r:Value),f.resultTypes[j]? = some t → (v.resultList f.resultTypes.size)[j]? = some r → Value.okWide P W' .any 0 t r) :
    s.post enc P f apart fresh handsOn again W args v W':=by
  have hlt:∀ p ∈ before,p.block < W.heap.size:=fun p hp=>hW.lt p hp
  have hold:∀ p ∈ before,(fun b=>decide (b < W.heap.size)) p.block = true:=fun p hp=>by simpa using hlt p hp
  refine ⟨ds,gs,before,[],pa,pv,hW,hres _ _ _,hargs _ hold,hvars _ hold,World.keptBut_mono (fun p hp=>⟨hp,?_⟩) (hb.frame (· ∈ before)),fun _=>?_⟩
  · rw [hps,List.mem_append] at hp
    exact Or.inr hp
  · obtain ⟨_,_,_,_,_,hz,hn⟩:=hW
    refine ⟨hok,_,_,([]++pa)++pv,⟨[]++pa,pv,trodAll_append (hargs _ (fun _ _=>rfl)) (hres _ _ _),hvars _ (fun _ _=>rfl),rfl,?_,?_⟩,?_⟩
    · intro b off hp
      have hin:MemPlace.cell b off ∈ before:=by rw [hps];simpa using hp
      rw [hb.frozen (hlt _ hin)]
      exact hz b off hin
    · intro ha
      have:=hn ha
      rw [hps] at this
      simpa using this
    · intro p hp _
      rw [hps]
      simpa using hp
end
end Go.Proofs.YtfbgbipclgljaaaGreatDoor
namespace Go.Proofs.A1
open Go Go.SL Go.ChangeShapes Go.WideShapes Go.Deep Go.Joins
section
variable {H:Type} {enc:TypeId × Value → H} {w:World}
theorem list1 {α:Type}:∀ {l:List α},l.length = 1 → ∃ a,l = [a]
  | [a],_=>⟨a,rfl⟩
theorem list2 {α:Type}:∀ {l:List α},l.length = 2 → ∃ a b,l = [a,b]
  | [a,b],_=>⟨a,b,rfl⟩
theorem list4 {α:Type}:∀ {l:List α},l.length = 4 → ∃ a b c d,l = [a,b,c,d]
  | [a,b,c,d],_=>⟨a,b,c,d,rfl⟩
theorem c4:Tryz.prog.cellsOf 4 = 1:=by kernel_rfl
theorem c132:Tryz.prog.cellsOf 132 = 4:=by kernel_rfl
theorem cells132 {n:Nat} {cs:List Value} {x:DataW H × List MemPlace} (h:DataW.trod enc Tryz.prog w 0 (fun _=>true) true n 132 cs = some x):∃ (a0:ByteArray) (a1:Int) (a2:Int) (a3:Int),cs = [.string a0,.int .i64 a1,.int .i64 a2,.int .i64 a3]:=by
  obtain ⟨ys,n0,_,_,hlen,hyl,hf⟩:=DataW.trod_struct Tryz.underlying132 h
  rw [c132] at hlen
  have hyl0:ys.length = 4:=hyl
  obtain ⟨k0,k1,k2,k3,rfl⟩:=list4 hlen
  have f0_0:DataW.trod enc Tryz.prog w 0 (fun _=>true) true n0 9 (List.take (Tryz.prog.cellsOf 9) (List.drop 0 [k0,k1,k2,k3])) = ys[0]?:=hf 0 _ rfl
  rw [c9,List.getElem?_eq_getElem (by omega)] at f0_0
  obtain ⟨b0,eb0,_,_⟩:=DataW.trod_string Tryz.underlying9 f0_0
  simp at eb0
  have f0_1:DataW.trod enc Tryz.prog w 0 (fun _=>true) true n0 3 (List.take (Tryz.prog.cellsOf 3) (List.drop 1 [k0,k1,k2,k3])) = ys[1]?:=hf 1 _ rfl
  rw [c3,List.getElem?_eq_getElem (by omega)] at f0_1
  obtain ⟨b1,eb1,_,_⟩:=DataW.trod_int Tryz.underlying3 f0_1
  simp at eb1
  have f0_2:DataW.trod enc Tryz.prog w 0 (fun _=>true) true n0 3 (List.take (Tryz.prog.cellsOf 3) (List.drop 2 [k0,k1,k2,k3])) = ys[2]?:=hf 2 _ rfl
  rw [c3,List.getElem?_eq_getElem (by omega)] at f0_2
  obtain ⟨b2,eb2,_,_⟩:=DataW.trod_int Tryz.underlying3 f0_2
  simp at eb2
  have f0_3:DataW.trod enc Tryz.prog w 0 (fun _=>true) true n0 3 (List.take (Tryz.prog.cellsOf 3) (List.drop 3 [k0,k1,k2,k3])) = ys[3]?:=hf 3 _ rfl
  rw [c3,List.getElem?_eq_getElem (by omega)] at f0_3
  obtain ⟨b3,eb3,_,_⟩:=DataW.trod_int Tryz.underlying3 f0_3
  simp at eb3
  subst eb0 eb1 eb2 eb3
  exact ⟨b0,b1,b2,b3,rfl⟩
theorem c83:Tryz.prog.cellsOf 83 = 4:=by kernel_rfl
theorem c80:Tryz.prog.cellsOf 80 = 1:=by kernel_rfl
theorem c44:Tryz.prog.cellsOf 44 = 1:=by kernel_rfl
theorem c81:Tryz.prog.cellsOf 81 = 1:=by kernel_rfl
theorem cells83 {n:Nat} {cs:List Value} {x:DataW H × List MemPlace} (h:DataW.trod enc Tryz.prog w 0 (fun _=>true) true n 83 cs = some x):∃ (a0:Int) (a1:Value) (a2:Value) (a3:Value),cs = [.int .i64 a0,a1,a2,a3] ∧ (∃ (m:Nat) (y:DataW H × List MemPlace),DataW.trod enc Tryz.prog w 0 (fun _=>true) true m 80 [a1] = some y) ∧ (∃ (m:Nat) (y:DataW H × List MemPlace),DataW.trod enc Tryz.prog w 0 (fun _=>true) true m 44 [a2] = some y) ∧ (∃ (m:Nat) (y:DataW H × List MemPlace),DataW.trod enc Tryz.prog w 0 (fun _=>true) true m 81 [a3] = some y):=by
  obtain ⟨ys,n0,_,_,hlen,hyl,hf⟩:=DataW.trod_struct Tryz.underlying83 h
  rw [c83] at hlen
  have hyl0:ys.length = 4:=hyl
  obtain ⟨k0,k1,k2,k3,rfl⟩:=list4 hlen
  have f0_0:DataW.trod enc Tryz.prog w 0 (fun _=>true) true n0 3 (List.take (Tryz.prog.cellsOf 3) (List.drop 0 [k0,k1,k2,k3])) = ys[0]?:=hf 0 _ rfl
  rw [c3,List.getElem?_eq_getElem (by omega)] at f0_0
  obtain ⟨b0,eb0,_,_⟩:=DataW.trod_int Tryz.underlying3 f0_0
  simp at eb0
  have f0_1:DataW.trod enc Tryz.prog w 0 (fun _=>true) true n0 80 (List.take (Tryz.prog.cellsOf 80) (List.drop 1 [k0,k1,k2,k3])) = ys[1]?:=hf 1 _ rfl
  rw [c80,List.getElem?_eq_getElem (by omega)] at f0_1
  have f0_2:DataW.trod enc Tryz.prog w 0 (fun _=>true) true n0 44 (List.take (Tryz.prog.cellsOf 44) (List.drop 2 [k0,k1,k2,k3])) = ys[2]?:=hf 2 _ rfl
  rw [c44,List.getElem?_eq_getElem (by omega)] at f0_2
  have f0_3:DataW.trod enc Tryz.prog w 0 (fun _=>true) true n0 81 (List.take (Tryz.prog.cellsOf 81) (List.drop 3 [k0,k1,k2,k3])) = ys[3]?:=hf 3 _ rfl
  rw [c81,List.getElem?_eq_getElem (by omega)] at f0_3
  subst eb0
  exact ⟨b0,k1,k2,k3,rfl,⟨_,_,by simpa using f0_1⟩,⟨_,_,by simpa using f0_2⟩,⟨_,_,by simpa using f0_3⟩⟩
theorem cells24 {n:Nat} {cs:List Value} {x:DataW H × List MemPlace} (h:DataW.trod enc Tryz.prog w 0 (fun _=>true) true n 24 cs = some x):∃ (a0:Value),cs = [a0] ∧ (∃ (m:Nat) (y:DataW H × List MemPlace),DataW.trod enc Tryz.prog w 0 (fun _=>true) true m 22 [a0] = some y):=by
  obtain ⟨ys,n0,_,_,hlen,hyl,hf⟩:=DataW.trod_struct Tryz.underlying24 h
  rw [c24] at hlen
  have hyl0:ys.length = 1:=hyl
  obtain ⟨k0,rfl⟩:=list1 hlen
  have f0_0:DataW.trod enc Tryz.prog w 0 (fun _=>true) true n0 22 (List.take (Tryz.prog.cellsOf 22) (List.drop 0 [k0])) = ys[0]?:=hf 0 _ rfl
  rw [c22,List.getElem?_eq_getElem (by omega)] at f0_0
  exact ⟨k0,rfl,⟨_,_,by simpa using f0_0⟩⟩
theorem c121:Tryz.prog.cellsOf 121 = 2:=by kernel_rfl
theorem cells121 {n:Nat} {cs:List Value} {x:DataW H × List MemPlace} (h:DataW.trod enc Tryz.prog w 0 (fun _=>true) true n 121 cs = some x):∃ a0 a1:Int,cs = [.int .i64 a0,.int .i64 a1]:=by
  obtain ⟨ys,n0,_,_,hlen,hyl,hf⟩:=DataW.trod_array Tryz.underlying121 h
  rw [c121] at hlen
  obtain ⟨k0,k1,rfl⟩:=list2 hlen
  have key:∀ i,i < 2 → DataW.trod enc Tryz.prog w 0 (fun _=>true) true n0 3 (List.take 1 (List.drop i [k0,k1])) = ys[i]?:=fun i hi=>by
    have:=hf i hi
    rwa [c3,Nat.mul_one] at this
  have f0:=key 0 (by omega)
  have f1:=key 1 (by omega)
  rw [List.getElem?_eq_getElem (by omega)] at f0 f1
  obtain ⟨b0,e0,_,_⟩:=DataW.trod_int Tryz.underlying3 f0
  obtain ⟨b1,e1,_,_⟩:=DataW.trod_int Tryz.underlying3 f1
  simp at e0 e1
  subst e0 e1
  exact ⟨b0,b1,rfl⟩
theorem open_sched {n:Nat} {sv:Value} {x:DataW H × List MemPlace} (h:DataW.trod enc Tryz.prog w 0 (fun _=>true) true n 24 [sv] = some x):∃ es,Rd w sv 6 (ensL es):=by
  obtain ⟨a,e,m,y,h2⟩:=cells24 h
  simp only [List.cons.injEq,and_true] at e
  subst e
  exact open_ens h2
theorem open_ints {n:Nat} {v:Value} {x:DataW H × List MemPlace} (h:DataW.trod enc Tryz.prog w 0 (fun _=>true) true n 44 [v] = some x):∃ l,Rd w v 1 (ints l):=
  open_rows (α:=Int) (cells:=fun e=>[.int .i64 e]) Tryz.underlying44 c3 (by decide) (fun _=>rfl) (fun _ _ _ h=>by obtain ⟨a,rfl,_⟩:=DataW.trod_int Tryz.underlying3 h;exact ⟨a,rfl⟩) h
theorem open_sps {n:Nat} {v:Value} {x:DataW H × List MemPlace} (h:DataW.trod enc Tryz.prog w 0 (fun _=>true) true n 80 [v] = some x):∃ l,Rd w v 4 (spsL l):=by
  haveI:Inhabited Sp:=⟨⟨⟨#[]⟩,0,0,0⟩⟩
  exact open_rows (cells:=Sp.cells) Tryz.underlying80 c132 (by decide) (fun _=>rfl) (fun _ _ _ h=>by obtain ⟨a,b,c,d,rfl⟩:=cells132 h;exact ⟨⟨a,b,c,d⟩,rfl⟩) h
theorem open_prs {n:Nat} {v:Value} {x:DataW H × List MemPlace} (h:DataW.trod enc Tryz.prog w 0 (fun _=>true) true n 81 [v] = some x):∃ l,Rd w v 2 (prsL l):=
  open_rows (α:=Int × Int) (cells:=prV) Tryz.underlying81 c121 (by decide) (fun _=>rfl) (fun _ _ _ h=>by obtain ⟨a,b,rfl⟩:=cells121 h;exact ⟨(a,b),rfl⟩) h
theorem open_brk {n:Nat} {cs:List Value} {x:DataW H × List MemPlace} (h:DataW.trod enc Tryz.prog w 0 (fun _=>true) true n 83 cs = some x):∃ (b:Br) (sv cv xv:Value),cs = [.int .i64 b.n,sv,cv,xv] ∧ Rd w sv 4 (spsL b.sp) ∧ Rd w cv 1 (ints b.cm) ∧ Rd w xv 2 (prsL b.ex):=by
  obtain ⟨a,sv,cv,xv,rfl,⟨_,_,h1⟩,⟨_,_,h2⟩,⟨_,_,h3⟩⟩:=cells83 h
  obtain ⟨l1,r1⟩:=open_sps h1
  obtain ⟨l2,r2⟩:=open_ints h2
  obtain ⟨l3,r3⟩:=open_prs h3
  exact ⟨⟨a,l1,l2,l3⟩,sv,cv,xv,rfl,r1,r2,r3⟩
end
end Go.Proofs.A1
namespace Go.Proofs.A1
open Go Go.SL
theorem low_eq {a b:Int} (ha:0 < a) (hb:0 < b):∃ g,0 < g ∧ a = (lowF a b).1 * g ∧ b = (lowF a b).2 * g:=by
  obtain ⟨m,rfl⟩:=Int.eq_ofNat_of_zero_le (Int.le_of_lt ha)
  obtain ⟨n,rfl⟩:=Int.eq_ofNat_of_zero_le (Int.le_of_lt hb)
  refine ⟨gcdF m n,(gcdF_pos hb).1,?_,?_⟩
  · unfold lowF gcdF
    simp only [Int.toNat_natCast]
    exact (Int.ediv_mul_cancel (Int.natCast_dvd_natCast.2 (Nat.gcd_dvd_left m n))).symm
  · unfold lowF gcdF
    simp only [Int.toNat_natCast]
    exact (Int.ediv_mul_cancel (Int.natCast_dvd_natCast.2 (Nat.gcd_dvd_right m n))).symm
theorem low_in {a b:Int} (ha:0 < a) (hab:a ≤ b):1 ≤ (lowF a b).1 ∧ (lowF a b).1 ≤ (lowF a b).2 ∧ (lowF a b).2 ≤ b:=by
  obtain ⟨g,hg,h1,h2⟩:=low_eq ha (show 0 < b by omega)
  generalize (lowF a b).1 = x at h1 h2 ⊢
  generalize (lowF a b).2 = y at h2 ⊢
  have hx:0 < x:=by
    apply Classical.byContradiction
    intro hn
    have:x * g ≤ 0:=Int.mul_nonpos_of_nonpos_of_nonneg (by omega) (by omega)
    omega
  have hxy:x ≤ y:=by
    apply Classical.byContradiction
    intro hn
    have:y * g < x * g:=Int.mul_lt_mul_of_pos_right (by omega) hg
    omega
  refine ⟨by omega,hxy,?_⟩
  have:y * 1 ≤ y * g:=Int.mul_le_mul_of_nonneg_left (by omega) (by omega)
  omega
theorem low_sum {a b c:Int} (ha:0 < a) (hb:0 < b) (hc:a + b = c):(lowF a c).1 * (lowF b c).2 + (lowF b c).1 * (lowF a c).2 = (lowF a c).2 * (lowF b c).2:=by
  obtain ⟨g,hg,h1,h2⟩:=low_eq ha (show 0 < c by omega)
  obtain ⟨k,hk,h3,h4⟩:=low_eq hb (show 0 < c by omega)
  generalize (lowF a c).1 = n1 at *
  generalize (lowF a c).2 = d1 at *
  generalize (lowF b c).1 = n2 at *
  generalize (lowF b c).2 = d2 at *
  have hgk:g * k ≠ 0:=Int.mul_ne_zero (by omega) (by omega)
  apply Int.eq_of_mul_eq_mul_right hgk
  have e1 : n1 * d2 * (g * k) = a * c := by rw [h1]; conv => rhs; rw [h4]
                                            simp only [Int.mul_assoc,Int.mul_left_comm,Int.mul_comm]
  have e2 : n2 * d1 * (g * k) = b * c := by rw [h3]; conv => rhs; rw [h2]
                                            simp only [Int.mul_assoc,Int.mul_left_comm,Int.mul_comm]
  have e3 : d1 * d2 * (g * k) = c * c := by conv => rhs; rw [h2]
                                            conv=>rhs;arg 2;rw [← h2,h4]
                                            simp only [Int.mul_assoc,Int.mul_left_comm,Int.mul_comm]
  rw [Int.add_mul,e1,e2,e3,← hc,Int.add_mul]
theorem Sound.over {es:List En} (h:Sound es) {k:Nat} (hk:k + 1 < es.length):to es k - fr es (k + 1) ≤ 250:=by
  have h1:=(h.next hk).1
  rw [jn_succ] at h1
  have:=(h.all.ok k (by omega)).ov
  omega
theorem Sound.air {es:List En} (h:Sound es) (f:Int):shF es f = [] ∨ (∃ i:Nat,i < es.length ∧ onB es f i = true ∧ shF es f = [((i:Int),1,1)]) ∨
    ∃ (i : Nat) (p q : Int × Int), i + 1 < es.length ∧ shF es f = [((i : Int), p), (((i + 1 : Nat) : Int), q)] ∧ p = lowF (to es i - f) (to es i - fr es (i + 1) + 1) ∧ q = lowF (f - fr es (i + 1) + 1) (to es i - fr es (i + 1) + 1) ∧
      1 ≤ p.1 ∧ p.1 ≤ p.2 ∧ p.2 ≤ 251 ∧ 1 ≤ q.1 ∧ q.1 ≤ q.2 ∧ q.2 ≤ 251 ∧ p.1 * q.2 + q.1 * p.2 = p.2 * q.2:=by
  rcases h.onL f es.length (Nat.le_refl _) with e | ⟨i,h1,h2,e⟩ | ⟨i,h1,h2,h3,e⟩
  · left;unfold shF;rw [e]
  · right;left;exact ⟨i,h1,h2,by unfold shF;rw [e]⟩
  · right;right
    have ho:=h.over h1
    simp only [onB,Bool.and_eq_true,decide_eq_true_eq] at h2 h3
    have e2:to es i - fr es (i + 1) - (f - fr es (i + 1)) = to es i - f:=by omega
    have l1:=low_in (a:=to es i - f) (b:=to es i - fr es (i + 1) + 1) (by omega) (by omega)
    have l2:=low_in (a:=f - fr es (i + 1) + 1) (b:=to es i - fr es (i + 1) + 1) (by omega) (by omega)
    have l3:=low_sum (a:=to es i - f) (b:=f - fr es (i + 1) + 1) (c:=to es i - fr es (i + 1) + 1) (by omega) (by omega) (by omega)
    refine ⟨i,_,_,h1,?_,rfl,rfl,l1.1,l1.2.1,by omega,l2.1,l2.2.1,by omega,l3⟩
    unfold shF;rw [e];dsimp only;rw [e2]
theorem shF_off {es:List En} {f:Int} (h:∀ k,k < es.length → onB es f k = false):shF es f = []:=by
  have:onL es f es.length = []:=by
    unfold onL
    rw [List.filter_eq_nil_iff]
    intro k hk
    rw [h k (List.mem_range.1 hk)];decide
  unfold shF;rw [this]
end Go.Proofs.A1
namespace Go.Proofs.A1
open Go Go.SL
def frs (a b:Int):List Int:=(List.range (b - a).toNat).map fun (i:Nat)=>a + (i:Int)
theorem mem_frs {a b n:Int}:n ∈ frs a b ↔ a ≤ n ∧ n < b:=by
  unfold frs
  rw [List.mem_map]
  constructor
  · rintro ⟨i,hi,rfl⟩
    have:=List.mem_range.1 hi
    omega
  · intro h
    exact ⟨(n - a).toNat,List.mem_range.2 (by omega),by omega⟩
theorem frs_nil {a b:Int} (h:b ≤ a):frs a b = []:=by
  unfold frs
  rw [show (b - a).toNat = 0 by omega];rfl
theorem frs_succ {a b:Int} (h:a ≤ b):frs a (b + 1) = frs a b++[b]:=by
  unfold frs
  rw [show (b + 1 - a).toNat = (b - a).toNat + 1 by omega,List.range_succ,List.map_append]
  congr 1
  show [a + (((b - a).toNat:Nat):Int)] = [b]
  congr 1;omega
def pvTo (es:List En) (k:Nat):Int:=if 0 < k then to es (k - 1) else fr es k
def tnL (es:List En):Nat → List Int
  | 0=>[]
  | k + 1=>tnL es k++[fr es k,to es k]++frs (fr es k) (pvTo es k)
theorem mem_tnL {es:List En} {n:Int}:∀ {k:Nat},n ∈ tnL es k ↔ ∃ i,i < k ∧ (n = fr es i ∨ n = to es i ∨ (fr es i ≤ n ∧ n < pvTo es i))
  | 0=>by simp [tnL]
  | k + 1 => by
    rw [tnL,List.mem_append,List.mem_append,mem_tnL (k:=k),mem_frs]
    simp only [List.mem_cons,List.not_mem_nil,or_false]
    constructor
    · rintro ((⟨i,hi,h⟩ | h) | h)
      · exact ⟨i,by omega,h⟩
      · exact ⟨k,by omega,by rcases h with h | h;exact .inl h;exact .inr (.inl h)⟩
      · exact ⟨k,by omega,.inr (.inr h)⟩
    · rintro ⟨i,hi,h⟩
      by_cases e:i = k
      · subst e
        rcases h with h | h | h
        · exact .inl (.inr (.inl h))
        · exact .inl (.inr (.inr h))
        · exact .inr h
      · exact .inl (.inl ⟨i,by omega,h⟩)
theorem Sound.still {es:List En} (h:Sound es) {n:Int} (hn:n ∉ tnL es es.length):shF es n = shF es (n - 1):=by
  have hne:∀ k,k < es.length → n ≠ fr es k ∧ n ≠ to es k ∧ ¬ (fr es k ≤ n ∧ n < pvTo es k):=fun k hk=>
    ⟨fun e=>hn (mem_tnL.2 ⟨k,hk,.inl e⟩),fun e=>hn (mem_tnL.2 ⟨k,hk,.inr (.inl e)⟩),fun e=>hn (mem_tnL.2 ⟨k,hk,.inr (.inr e)⟩)⟩
  have hb:∀ k,k < es.length → onB es n k = onB es (n - 1) k:=fun k hk=>by
    have:=hne k hk
    unfold onB
    rw [show decide (fr es k ≤ n) = decide (fr es k ≤ n - 1) from decide_eq_decide.2 (by omega),show decide (n < to es k) = decide (n - 1 < to es k) from decide_eq_decide.2 (by omega)]
  have hl:A1.onL es n es.length = A1.onL es (n - 1) es.length:=by
    unfold Go.Proofs.A1.onL
    exact List.filter_congr fun k hk=>hb k (List.mem_range.1 hk)
  rcases h.onL n es.length (Nat.le_refl _) with e | ⟨i,h1,h2,e⟩ | ⟨i,h1,h2,h3,e⟩
  · unfold shF;rw [← hl,e]
  · unfold shF;rw [← hl,e]
  · exfalso
    have:=(hne (i + 1) h1).2.2
    simp only [onB,Bool.and_eq_true,decide_eq_true_eq] at h2 h3
    apply this
    unfold pvTo
    rw [if_pos (by omega),Nat.add_sub_cancel]
    exact ⟨h3.1,h2.2⟩
def vwL (es:List En) (f:Int):List (ByteArray × Int × Int):=(shF es f).map fun x=>((nth es x.1.toNat).nm,x.2)
theorem Sound.vw_still {es:List En} (h:Sound es) {n:Int} (hn:n ∉ tnL es es.length):vwL es n = vwL es (n - 1):=by
  unfold vwL;rw [h.still hn]
theorem vw_off {es:List En} {n:Int} (h:∀ k,k < es.length → n < fr es k ∨ to es k ≤ n):vwL es n = []:=by
  unfold vwL
  rw [shF_off fun k hk=>?_];rfl
  have:=h k hk
  unfold onB
  rw [Bool.and_eq_false_iff,decide_eq_false_iff_not,decide_eq_false_iff_not]
  omega
def dfB (a b:List En) (n:Int):Bool:=decide (vwL a n ≠ vwL b n)
structure ChSp (D:Int → Bool) (p q:Int):Prop where
  p1:D p = true
  p0:∀ n,n < p → D n = false
  q1:D (q - 1) = true
  q0:∀ n,q ≤ n → D n = false
theorem ChSp.same {D:Int → Bool} {p q p' q':Int} (h:ChSp D p q) (h':ChSp D p' q'):p = p' ∧ q = q':=by
  constructor
  · apply Classical.byContradiction
    intro hn
    by_cases hl:p < p'
    · have:=h'.p0 p hl;rw [h.p1] at this;cases this
    · have:=h.p0 p' (by omega);rw [h'.p1] at this;cases this
  · apply Classical.byContradiction
    intro hn
    by_cases hl:q < q'
    · have:=h.q0 (q' - 1) (by omega);rw [h'.q1] at this;cases this
    · have:=h'.q0 (q - 1) (by omega);rw [h.q1] at this;cases this
structure Turns (D:Int → Bool) (T:List Int):Prop where
  st:∀ n,n ∉ T → D n = D (n - 1)
  neg:∀ n,n < 0 → D n = false
  inc:T.Pairwise (· < ·)
theorem up_same {D:Int → Bool} {m:Int}:∀ (k:Nat),(∀ n,m < n → n ≤ m + k → D n = D (n - 1)) → D (m + k) = D m
  | 0,_=>by rw [Int.natCast_zero,Int.add_zero]
  | k + 1, h => by
    have h1:=up_same k fun n a b=>h n a (by omega)
    have h2:=h (m + (k + 1:Nat)) (by omega) (by omega)
    rw [h2,show m + ((k + 1:Nat):Int) - 1 = m + k by omega,h1]
theorem up_to {D:Int → Bool} {m n:Int} (hmn:m ≤ n) (h:∀ x,m < x → x ≤ n → D x = D (x - 1)):D n = D m:=by
  have:=up_same (D:=D) (m:=m) (n - m).toNat fun x a b=>h x a (by omega)
  rwa [show m + (((n - m).toNat:Nat):Int) = n by omega] at this
theorem Turns.lt {D:Int → Bool} {T:List Int} (h:Turns D T) {i j:Nat} (hij:i < j) (hj:j < T.length):T[i]'(by omega) < T[j]:=
  List.pairwise_iff_getElem.1 h.inc i j (by omega) hj hij
theorem Turns.ahead {D:Int → Bool} {T:List Int} (h:Turns D T) {m:Int} (hm:∀ t ∈ T,t < m → D t = false):∀ n,n < m → D n = false:=by
  have key:∀ k:Nat,((k:Int) - 1) < m → D ((k:Int) - 1) = false:=by
    intro k
    induction k with
    | zero=>intro _;exact h.neg _ (by omega)
    | succ k ih =>
      intro hk
      by_cases ht:(((k + 1:Nat):Int) - 1) ∈ T
      · exact hm _ ht hk
      · rw [h.st _ ht,show ((k + 1:Nat):Int) - 1 - 1 = (k:Int) - 1 by omega]
        exact ih (by omega)
  intro n hn
  by_cases h0:n < 0
  · exact h.neg n h0
  · have:=key (n + 1).toNat (by omega)
    rwa [show (((n + 1).toNat:Nat):Int) - 1 = n by omega] at this
theorem Turns.none {D:Int → Bool} {T:List Int} (h:Turns D T) (hz:∀ t ∈ T,D t = false):∀ n,D n = false:=
  fun n=>h.ahead (m:=n + 1) (fun t ht _=>hz t ht) n (by omega)
theorem Turns.behind {D:Int → Bool} {T:List Int} (h:Turns D T) {m:Int} (h0:D m = false) (hm:∀ t ∈ T,m < t → D t = false):∀ n,m ≤ n → D n = false:=by
  have key:∀ k:Nat,D (m + k) = false:=by
    intro k
    induction k with
    | zero=>rw [Int.natCast_zero,Int.add_zero];exact h0
    | succ k ih =>
      by_cases ht:(m + ((k + 1:Nat):Int)) ∈ T
      · exact hm _ ht (by omega)
      · rw [h.st _ ht,show m + ((k + 1:Nat):Int) - 1 = m + k by omega];exact ih
  intro n hn
  have:=key (n - m).toNat
  rwa [show m + (((n - m).toNat:Nat):Int) = n by omega] at this
theorem Turns.span {D:Int → Bool} {T:List Int} (h:Turns D T) {i j:Nat} (hj:j + 1 < T.length) (hij:i ≤ j) (hi:D (T[i]'(by omega)) = true) (hi0:∀ k (hk:k < i),D (T[k]'(by omega)) = false) (hj1:D (T[j]'(by omega)) = true) (hj0:∀ k (hk:k < T.length),j < k → D T[k] = false) :
    ChSp D (T[i]'(by omega)) T[j + 1]:=by
  refine ⟨hi,h.ahead fun t ht hlt=>?_,?_,h.behind (hj0 _ _ (by omega)) fun t ht hlt=>?_⟩
  · obtain ⟨k,hk,rfl⟩:=List.getElem_of_mem ht
    have:k < i:=by
      apply Classical.byContradiction
      intro hn
      by_cases e:k = i
      · subst e;omega
      · have:=h.lt (i:=i) (j:=k) (by omega) hk;omega
    exact hi0 k this
  · have hlt:=h.lt (i:=j) (j:=j + 1) (by omega) hj
    rw [up_to (D:=D) (m:=T[j]'(by omega)) (n:=T[j + 1] - 1) (by omega) fun x h1 h2=>h.st x fun hx=>?_]
    · exact hj1
    · obtain ⟨k,hk,rfl⟩:=List.getElem_of_mem hx
      have a1:j < k:=by
        apply Classical.byContradiction
        intro hn
        by_cases e:k = j
        · subst e;omega
        · have:=h.lt (i:=k) (j:=j) (by omega) (by omega);omega
      have a2:k < j + 1:=by
        apply Classical.byContradiction
        intro hn
        by_cases e:k = j + 1
        · subst e;omega
        · have:=h.lt (i:=j + 1) (j:=k) (by omega) hk;omega
      omega
  · obtain ⟨k,hk,rfl⟩:=List.getElem_of_mem ht
    have:j < k:=by
      apply Classical.byContradiction
      intro hn
      by_cases e:k = j + 1
      · omega
      · have:=h.lt (i:=k) (j:=j + 1) (by omega) hj;omega
    exact hj0 k hk this
theorem Sound.pv_le {es:List En} (h:Sound es) {k:Nat} (hk:k < es.length):pvTo es k ≤ to es k:=by
  unfold pvTo
  split
  · have:=h.to_lt (i:=k - 1) (k:=k) (by omega) hk;omega
  · have:=h.fr_nn hk;omega
theorem tn_in {es:List En} (h:Sound es) {n:Int} (hn:n ∈ tnL es es.length):0 ≤ n ∧ n ≤ 10000000 ∧ ∃ k,k < es.length ∧ n ≤ to es k:=by
  obtain ⟨k,hk,e⟩:=mem_tnL.1 hn
  have h1:=h.fr_nn hk
  have h2:=h.pv_le hk
  rcases e with e | e | e <;> exact ⟨by omega,by omega,k,hk,by omega⟩
theorem df_end {a b:List En} {n:Int} (h:∀ m,m ∈ tnL a a.length ∨ m ∈ tnL b b.length → m ≤ n):dfB a b n = false:=by
  unfold dfB
  rw [vw_off fun k hk=>.inr (h _ (.inl (mem_tnL.2 ⟨k,hk,.inr (.inl rfl)⟩))),vw_off fun k hk=>.inr (h _ (.inr (mem_tnL.2 ⟨k,hk,.inr (.inl rfl)⟩)))]
  simp
theorem df_neg {a b:List En} (ha:Sound a) (hb:Sound b) {n:Int} (h:n < 0):dfB a b n = false:=by
  unfold dfB
  rw [vw_off fun k hk=>.inl (by have:=ha.fr_nn hk;omega),vw_off fun k hk=>.inl (by have:=hb.fr_nn hk;omega)]
  simp
theorem df_still {a b:List En} (ha:Sound a) (hb:Sound b) {n:Int} (h1:n ∉ tnL a a.length) (h2:n ∉ tnL b b.length):dfB a b n = dfB a b (n - 1):=by
  unfold dfB;rw [ha.vw_still h1,hb.vw_still h2]
end Go.Proofs.A1
namespace Go.Proofs.A1
open Go Go.SL
def tnP (es:List En) (k:Nat) (n:Int):List Int:=tnL es k++[fr es k,to es k]++frs (fr es k) n
theorem frs_len (a b:Int):(frs a b).length = (b - a).toNat:=by simp [frs]
theorem Sound.pv_in {es:List En} (h:Sound es) {k:Nat} (hk:k < es.length):pvTo es k - fr es k ≤ 250:=by
  unfold pvTo
  split
  · have:=h.over (k:=k - 1) (by omega)
    rwa [show k - 1 + 1 = k by omega] at this
  · omega
theorem Sound.tn_len {es:List En} (h:Sound es):∀ k,k ≤ es.length → (tnL es k).length ≤ 300 * k
  | 0,_=>Nat.le_refl _
  | k + 1, hk => by
    have h1:=h.tn_len k (by omega)
    have h2:=h.pv_in (k:=k) (by omega)
    rw [tnL,List.length_append,List.length_append,frs_len]
    simp only [List.length_cons,List.length_nil]
    omega
theorem Sound.tnP_len {es:List En} (h:Sound es) {k:Nat} (hk:k < es.length) {n:Int} (hn:n ≤ fr es k ∨ n ≤ pvTo es k):(tnP es k n).length ≤ 8000:=by
  have h1:=h.tn_len k (by omega)
  have h2:=h.pv_in hk
  have h3:=h.all.few
  rw [tnP,List.length_append,List.length_append,frs_len]
  simp only [List.length_cons,List.length_nil]
  omega
theorem tnP_succ {es:List En} {k:Nat} {n:Int} (h:fr es k ≤ n):tnP es k (n + 1) = tnP es k n++[n]:=by
  unfold tnP;rw [frs_succ h,← List.append_assoc]
theorem tnP_zero {es:List En} {k:Nat}:tnP es k (fr es k) = tnL es k++[fr es k,to es k]:=by
  unfold tnP;rw [frs_nil (Int.le_refl _),List.append_nil]
theorem tnP_end {es:List En} {k:Nat} {n:Int} (h:n = pvTo es k ∨ (n = fr es k ∧ pvTo es k ≤ n)):tnP es k n = tnL es (k + 1):=by
  rw [tnL,tnP]
  rcases h with h | ⟨h,h2⟩
  · rw [h]
  · rw [frs_nil (by omega),frs_nil (by omega)]
def intsV (l:List Int):List Value:=l.map (Value.int .i64)
theorem intsV_flat (l:List Int):intsV l = (ints l).flatten:=by
  induction l with
  | nil=>rfl
  | cons a l ih=>simp only [intsV,ints,List.map_cons,List.flatten_cons] at ih ⊢;rw [ih];rfl
theorem intsV_length (l:List Int):(intsV l).length = l.length:=by simp [intsV]
theorem intsV_app (a b:List Int):intsV (a++b) = intsV a++intsV b:=by simp [intsV]
theorem rdIntsV {c:Cx} {hs hs':List Asn} {w:World} {E:TypeId} {v:Value} {l:List Int} {n:Nat} (hm:Mem c hs w) (ht:Take hs (row E 1 v n (intsV l)) hs') (hn:n = l.length):Rd w v 1 (ints l):=
  hm.rdRow ht (intsV_flat l) (fun r hr=>by obtain ⟨x,_,rfl⟩:=List.mem_map.1 hr;rfl) (by rw [hn];exact ints_length l)
set_option maxHeartbeats 1000000 in
theorem turns_c {lv:Value} {es:List En} {w:World} (h:Rd w lv 8 (plRows es)) (hs:Sound es) :
    Gives Tryz.prog 167 [lv] w [] (fun _:Value=>True) id (fun v=>[row 3 1 v (tnL es es.length).length (intsV (tnL es es.length))]):=by
  obtain ⟨a,cp,b,o,rfl,hcap,hmax,ha,hc⟩:=h
  rw [plRows_length] at *
  unfold maxLen at hmax
  have hfew:=hs.all.few
  refine gives_of_tr Tryz.func167 rfl rfl ?_
  (refine s_r ?_;refine a_s rfl rfl ?_;refine n_r ?_;refine a_s rfl rfl ?_;refine n_t ?_;refine tr_seq ?_;refine s_r ?_;refine m_v rfl rfl ?_;refine tr_val (rk_len_slice (.of rfl)) rfl ?_;refine m_v rfl rfl ?_;refine n_t ?_;refine tr_block ?_)
  refine tr_rowNil 3 1 ?_
  refine tr_for (ι:=Nat × Value) (fun x=>x.1 ≤ es.length) (fun x=>[(9,.int .i64 x.1),(8,.int .i64 es.length),(7,.slice a es.length cp),(3,x.2),(0,.slice a es.length cp)]) (fun x=>[row 3 1 x.2 (tnL es x.1).length (intsV (tnL es x.1))]) (fun x=>es.length - x.1) ?_ ?_
  · apply tr_start (0,.slice none 0 0) (Nat.zero_le _)
    case hs1=>exact .cons rfl (.cons rfl (.cons rfl (.cons rfl (.cons rfl .nil))))
    case ht=>
      show Takes _ [row 3 1 (.slice none 0 0) 0 []] _
      exact .cons .here .nil
  rintro ⟨k,v⟩ hk
  dsimp only at hk ⊢
  by_cases hlt:k < es.length
  · have ha':=ha (plRows_ne hlt)
    have hcell:=(hc k _ (plRows_get hlt)).2
    have hk1:(max 0 ((k:Int) - 1)).toNat = k - 1:=by omega
    have p7:w.cell? ⟨b,o + (max 0 ((k:Int) - 1)).toNat * 8 + 7,none⟩ = some (.int .i64 (to es (k - 1))):=by
      rw [hk1];exact (hc (k - 1) _ (plRows_get (by omega))).2 7 _ rfl
    have b0:=hs.fr_nn hlt
    have b1:=hs.fr_nn (k:=k - 1) (by omega)
    have hl0:=hs.tn_len k hk
    have hpv:0 < k → pvTo es k = to es (k - 1):=fun h=>by rw [pvTo,if_pos h]
    have hpv0:¬ 0 < k → pvTo es k = fr es k:=fun h=>by rw [pvTo,if_neg h]
    unfold plL at hcell
    (refine s_r ?_;refine tr_val (rk_lss (.of rfl) (.of rfl)) rfl ?_;refine n_t ?_;refine tr_seq ?_;refine c_d rfl (fun hcd=>?_) (fun _=>by omega);refine s_t ?_;refine tr_seq ?_;refine tr_block ?_;refine s_r ?_;refine m_v rfl rfl ?_;refine tr_val (rk_indexAddr (.of rfl) (.of rfl) ha' (by omega) hcd norm1_) rfl ?_;refine tr_val (rk_loadN (.of rfl) (Ats.base hcell rfl) rfl) rfl ?_;refine tr_new (rk_alloc rfl) rfl (fun _ _=>?_);refine a_s rfl rfl ?_;refine tr_store (.of rfl) (.of rfl) .here rfl rfl (okc_cons rfl (okc_cons rfl (okc_cons rfl (okc_cons rfl (okc_cons rfl (okc_cons rfl (okc_cons rfl (okc_cons rfl okc_nil)))))))) (lenb rfl) norm_ ?_;refine n_r ?_;refine m_v rfl rfl ?_;refine f_a rfl rfl norm0_ ?_;refine f_a rfl rfl norm0_ ?_;refine tr_val (rk_load1 (.of rfl) (At.lit .here rfl)) rfl ?_;refine f_a rfl rfl norm0_ ?_;refine f_a rfl rfl norm0_ ?_;refine tr_val (rk_load1 (.of rfl) (At.lit .here rfl)) rfl ?_;refine tr_new (rk_sliceLit (.cons (.of rfl) (.cons (.of rfl) .nil)) rfl rfl rfl rfl) rfl (fun _ _=>?_))
    rename_i b5 hb5 _ _
    refine tr_appendB (.of rfl) (.of rfl) (.there (.there .here)) .here norm_ (by rfl) (okc_cons rfl (okc_cons rfl okc_nil)) (by rfl) (by rfl) (by rfl) lenx_ (by rfl) ?_
    intro v1
    (refine a_s rfl rfl ?_;refine n_r ?_;refine f_a rfl rfl norm0_ ?_;refine f_a rfl rfl norm0_ ?_;refine tr_val (rk_load1 (.of rfl) (At.lit (.there (.there .here)) rfl)) rfl ?_;refine a_s rfl rfl ?_;refine n_t ?_;refine tr_block ?_)
    refine tr_for (ι:=Int × Value) (fun x=>fr es k ≤ x.1 ∧ (x.1 ≤ fr es k ∨ x.1 ≤ pvTo es k)) (fun x=>[(6,.int .i64 x.1),(3,x.2),(4,.int .i64 (k:Int)),(5,.pointer (some ⟨b5,0,none⟩)),(9,.int .i64 (k:Int)),(8,.int .i64 es.length),(7,.slice a es.length cp),(0,.slice a es.length cp)]) (fun x=>[row 3 1 x.2 (tnP es k x.1).length (intsV (tnP es k x.1))]) (fun x=>(pvTo es k - x.1).toNat) ?_ ?_
    · apply tr_start (fr es k,v1) ⟨Int.le_refl _,.inl (Int.le_refl _)⟩
      case hs1=>exact .cons rfl (.cons rfl (.cons rfl (.cons rfl (.cons rfl (.cons rfl (.cons rfl (.cons rfl .nil)))))))
      case ht=>
        show Takes _ [row 3 1 v1 (tnP es k (fr es k)).length (intsV (tnP es k (fr es k)))] _
        rw [tnP_zero,intsV_app,List.length_append]
        show Takes _ [row 3 1 v1 ((tnL es k).length + 2) (intsV (tnL es k)++[.int .i64 (fr es k),.int .i64 (to es k)])] _
        exact .cons .here .nil
    rintro ⟨n,v2⟩ ⟨hn0,hn1⟩
    dsimp only at hn0 hn1 ⊢
    have hl1:=hs.tnP_len hlt hn1
    (refine tr_seq ?_;refine s_r ?_;refine m_v rfl rfl ?_;refine tr_val (rk_gtr (.of rfl) (.of rfl)) rfl ?_;refine m_v rfl rfl ?_;refine v_g rfl rfl rfl rfl ?_;refine v_g rfl rfl rfl rfl ?_;refine v_g rfl rfl rfl rfl ?_;refine tr_vG1 rfl rfl inferInstance (fun hg hgp=>(rk_sub (.ofg hg rfl) (.of rfl) (ini (by omega)))) rfl ?_;refine tr_vG1 rfl rfl inferInstance (fun hg hgp=>(rk_max2 (.of rfl) (.ofg hg rfl))) rfl ?_;refine tr_vG1 rfl rfl inferInstance (fun hg hgp=>(rk_indexAddr (.ofg hg rfl) (.ofg hg rfl) ha' (by omega) (by omega) norm1_)) rfl ?_;refine tr_vG1 rfl rfl inferInstance (fun hg hgp=>(rk_fieldAddr (.ofg hg rfl) norm0_)) rfl ?_;refine tr_vG1 rfl rfl inferInstance (fun hg hgp=>(rk_fieldAddr (.ofg hg rfl) norm0_)) rfl ?_;refine tr_vG1 rfl rfl inferInstance (fun hg hgp=>(rk_load1 (.ofg hg rfl) (At.base p7 rfl))) rfl ?_;refine tr_vG1 rfl rfl inferInstance (fun hg hgp=>(rk_lss (.ofg hg rfl) (.ofg hg rfl))) rfl ?_;refine tr_val (rk_pick_and (.of rfl) rfl) rfl ?_;refine n_t ?_;refine c_b rfl (fun hcd=>?_) (fun hcd=>?_);refine s_t ?_;refine tr_seq ?_;refine tr_block ?_;refine tr_region ?_;refine m_v rfl rfl ?_;refine m_v rfl rfl ?_;refine tr_new (rk_sliceLit (.cons (.of rfl) .nil) rfl rfl rfl rfl) rfl (fun _ _=>?_);rotate_left;refine x_t ?_;refine tr_then_exit ?_;refine tr_blk_exit ?_;refine tr_blk_normal ?_;refine tr_then ?_;refine tr_region ?_;refine tr_val (rk_add (.of rfl) (.of rfl) (ini (by omega))) rfl ?_;refine m_v rfl rfl ?_;refine n_t ?_;rotate_right)
    · have hk0:0 < k:=by omega
      have hpe:=hpv hk0
      have hnt:n < to es (k - 1):=hcd.2
      have hsx:=tnP_succ (es:=es) (k:=k) hn0
      have hl2:=hs.tnP_len hlt (n:=n + 1) (.inr (by omega))
      clear hcd
      refine tr_appendB (.of rfl) (.of rfl) (.there .here) .here norm_ (by rfl) (okc_cons rfl okc_nil) (by rfl) (by rfl) (by rfl) lenx_ (by rfl) ?_
      intro v3
      (refine a_s rfl rfl ?_;refine tr_nil ?_;refine tr_blk_normal ?_;refine tr_then ?_;refine tr_region ?_;refine m_v rfl rfl ?_;refine tr_val (rk_add (.of rfl) (.of rfl) (ini (by omega))) rfl ?_;refine a_s rfl rfl ?_;refine n_t ?_)
      apply tr_next (n + 1,v3) ⟨(show fr es k ≤ n + 1 by omega),(show n + 1 ≤ fr es k ∨ n + 1 ≤ pvTo es k by omega)⟩ (show (pvTo es k - (n + 1)).toNat < (pvTo es k - n).toNat by omega)
      case hs1=>exact .cons rfl (.cons rfl (.cons rfl (.cons rfl (.cons rfl (.cons rfl (.cons rfl (.cons rfl .nil)))))))
      case ht=>
        show Takes _ [row 3 1 v3 (tnP es k (n + 1)).length (intsV (tnP es k (n + 1)))] _
        rw [hsx,intsV_app,List.length_append]
        show Takes _ [row 3 1 v3 ((tnP es k n).length + 1) (intsV (tnP es k n)++[.int .i64 n])] _
        exact .cons .here .nil
    · have hte:tnP es k n = tnL es (k + 1):=by
        refine tnP_end ?_
        by_cases hk0:0 < k
        · have:=hpv hk0;omega
        · have:=hpv0 hk0;omega
      rw [hte]
      clear hcd
      apply tr_next (k + 1,v2) (show k + 1 ≤ es.length from hlt) (show es.length - (k + 1) < es.length - k by omega)
      case hs1=>exact .cons rfl (.cons rfl (.cons rfl (.cons rfl (.cons rfl .nil))))
      case ht=>exact .cons .here .nil
  · obtain rfl:k = es.length:=by omega
    (refine s_r ?_;refine tr_val (rk_lss (.of rfl) (.of rfl)) rfl ?_;refine n_t ?_;refine tr_seq ?_;refine c_d rfl (fun _=>by omega) (fun hcd=>?_);refine x_t ?_;refine tr_then_exit ?_;refine tr_blk_exit ?_;refine tr_then ?_;refine s_r ?_;refine m_v rfl rfl ?_;refine a_s rfl rfl ?_;refine n_t ?_;refine tr_ret ?_)
    first | with_reducible apply tr_retM | with_reducible apply tr_endM
    case he=>exact ends1 rfl rfl
    case hR=>
      intro w' hm'
      exact gives_end v trivial (show Takes _ [row 3 1 v (tnL es es.length).length (intsV (tnL es es.length))] _ by exact .cons .here .nil) hm' rfl
end Go.Proofs.A1
namespace Go.Proofs
open Go.Shelf
def Tryz.lays189_ren:Go.Shelf.Ren:=⟨fun | 189=>204 | 125=>222 | 257=>221 | 128=>244 | 129=>245 | 294=>235 | 295=>236 | 296=>237 | 297=>238 | 298=>239 | 299=>240 | 216=>241 | 300=>242 | 301=>243 | 328=>255 | 329=>256 | 330=>257 | 331=>258 | 332=>259 | 215=>180 | 343=>268 | n=>n,fun | 28=>44 | 3=>3 | 46=>317 | 0=>0 | 51=>334 | 53=>336 | 4=>4 | 183=>328 | 182=>327 | 131=>260 | 5=>5 | 9=>9 | 218=>344 | 222=>348 | 228=>353 | 229=>354 | n=>n,fun | n=>n⟩
theorem Tryz.lays189:Go.Proofs.Lays.n189 Tryz.prog Tryz.lays189_ren:={
  mixed:=by kernel_rfl
  f125:=Tryz.func222.trans (congrArg some (by kernel_rfl))
  f128:=Tryz.func244.trans (congrArg some (by kernel_rfl))
  f129:=Tryz.func245.trans (congrArg some (by kernel_rfl))
  f189:=Tryz.func204.trans (congrArg some (by kernel_rfl))
  f215:=Tryz.func180.trans (congrArg some (by kernel_rfl))
  f216:=Tryz.func241.trans (congrArg some (by kernel_rfl))
  f257:=Tryz.func221.trans (congrArg some (by kernel_rfl))
  f294:=Tryz.func235.trans (congrArg some (by kernel_rfl))
  f295:=Tryz.func236.trans (congrArg some (by kernel_rfl))
  f296:=Tryz.func237.trans (congrArg some (by kernel_rfl))
  f297:=Tryz.func238.trans (congrArg some (by kernel_rfl))
  f298:=Tryz.func239.trans (congrArg some (by kernel_rfl))
  f299:=Tryz.func240.trans (congrArg some (by kernel_rfl))
  f300:=Tryz.func242.trans (congrArg some (by kernel_rfl))
  f301:=Tryz.func243.trans (congrArg some (by kernel_rfl))
  f328:=Tryz.func255.trans (congrArg some (by kernel_rfl))
  f329:=Tryz.func256.trans (congrArg some (by kernel_rfl))
  f330:=Tryz.func257.trans (congrArg some (by kernel_rfl))
  f331:=Tryz.func258.trans (congrArg some (by kernel_rfl))
  f332:=Tryz.func259.trans (congrArg some (by kernel_rfl))
  f343:=Tryz.func268.trans (congrArg some (by kernel_rfl))
  t0:=Tryz.underlying0
  a0:=Tryz.isAgg0
  z0:=Tryz.sizeOf0
  v0:=Tryz.zeroValue0
  t3:=Tryz.underlying3
  a3:=Tryz.isAgg3
  z3:=Tryz.sizeOf3
  v3:=Tryz.zeroValue3
  t4:=Tryz.underlying4
  a4:=Tryz.isAgg4
  z4:=Tryz.sizeOf4
  v4:=Tryz.zeroValue4
  t5:=Tryz.underlying5
  a5:=Tryz.isAgg5
  z5:=Tryz.sizeOf5
  v5:=Tryz.zeroValue5
  t9:=Tryz.underlying9
  a9:=Tryz.isAgg9
  z9:=Tryz.sizeOf9
  v9:=Tryz.zeroValue9
  t28:=Tryz.underlying44
  a28:=Tryz.isAgg44
  z28:=Tryz.sizeOf44
  v28:=Tryz.zeroValue44
  t46:=Tryz.underlying317
  a46:=Tryz.isAgg317
  z46:=Tryz.sizeOf317
  v46:=Tryz.zeroValue317
  t51:=Tryz.underlying334
  a51:=Tryz.isAgg334
  z51:=Tryz.sizeOf334
  v51:=Tryz.zeroValue334
  t53:=Tryz.underlying336
  a53:=Tryz.isAgg336
  z53:=Tryz.sizeOf336
  v53:=Tryz.zeroValue336
  t131:=Tryz.underlying260
  a131:=Tryz.isAgg260
  z131:=Tryz.sizeOf260
  v131:=Tryz.zeroValue260
  t182:=Tryz.underlying327
  a182:=Tryz.isAgg327
  z182:=Tryz.sizeOf327
  v182:=Tryz.zeroValue327
  t183:=Tryz.underlying328
  a183:=Tryz.isAgg328
  z183:=Tryz.sizeOf328
  v183:=Tryz.zeroValue328
  t218:=Tryz.underlying344
  a218:=Tryz.isAgg344
  z218:=Tryz.sizeOf344
  v218:=Tryz.zeroValue344
  t222:=Tryz.underlying348
  a222:=Tryz.isAgg348
  z222:=Tryz.sizeOf348
  v222:=Tryz.zeroValue348
  t228:=Tryz.underlying353
  a228:=Tryz.isAgg353
  z228:=Tryz.sizeOf353
  v228:=Tryz.zeroValue353
  t229:=Tryz.underlying354
  a229:=Tryz.isAgg354
  z229:=Tryz.sizeOf354
  v229:=Tryz.zeroValue354 }
open Go.Sort Go.RowKit in
theorem Tryz.slices_Sort_int (blk off cap:Nat) (zs:List Int) (w:World) (hH:Holds (Value.int .i64) w blk off zs.toArray) (hblk:blk < w.heap.size) (hsz:zs.length < 4611686018427387904) :
    Calls Tryz.prog 204 #[.slice (some ⟨blk,off,none⟩) zs.length cap] w fun e w'=>
      e = .returned (.tuple #[]) ∧ ∃ n os,w' = grow (putRow (Value.int .i64) (Sort.ahead w n) blk off (zs.mergeSort fun x y=>decide (x ≤ y)).toArray) os:=Any.slices_Sort_int Tryz.lays189 blk off cap zs w hH hblk hsz
def Tryz.laysNm220_ren:Go.Shelf.Ren:=⟨fun | 20=>164 | n=>n,fun | 22=>44 | 3=>3 | 4=>4 | 0=>0 | n=>n,fun | n=>n⟩
theorem Tryz.laysNm220:Go.Proofs.Lays2.n20 Tryz.prog Tryz.laysNm220_ren:={
  mixed:=by kernel_rfl
  f20:=Tryz.func164.trans (congrArg some (by kernel_rfl))
  t0:=Tryz.underlying0
  a0:=Tryz.isAgg0
  z0:=Tryz.sizeOf0
  v0:=Tryz.zeroValue0
  t3:=Tryz.underlying3
  a3:=Tryz.isAgg3
  z3:=Tryz.sizeOf3
  v3:=Tryz.zeroValue3
  t4:=Tryz.underlying4
  a4:=Tryz.isAgg4
  z4:=Tryz.sizeOf4
  v4:=Tryz.zeroValue4
  t22:=Tryz.underlying44
  a22:=Tryz.isAgg44
  z22:=Tryz.sizeOf44
  v22:=Tryz.zeroValue44
  i3:=by kernel_rfl }
open Go.RowKit Go.Lib Go.Sort in
theorem Tryz.slices_Compact_int (blk off cap:Nat) (zs:List Int) (w:World) (hH:Holds (Value.int .i64) w blk off zs.toArray) (hsz:zs.length ≤ 9223372036854775807) (hcap:zs.length ≤ cap) :
    Calls Tryz.prog 164 #[.slice (some ⟨blk,off,none⟩) zs.length cap] w fun e w'=>e = .returned (.slice (some ⟨blk,off,none⟩) (Lib.compact zs).length cap) ∧ ∃ q,w' = putRow (Value.int .i64) (Sort.ahead w q) blk off (Lib.compact zs++List.replicate (zs.length - (Lib.compact zs).length) 0).toArray:=Any.slices_Compact_int Tryz.laysNm220 blk off cap zs w hH hsz hcap
open Go.RowKit Go.Lib Go.Sort in
theorem Tryz.slices_Compact_int_empty (a:Option Addr) (cap:Nat) (w:World) :
    Calls Tryz.prog 164 #[.slice a 0 cap] w fun e w'=>e = .returned (.slice a 0 cap) ∧ w' = w:=Any.slices_Compact_int_empty Tryz.laysNm220 a cap w
end Go.Proofs
