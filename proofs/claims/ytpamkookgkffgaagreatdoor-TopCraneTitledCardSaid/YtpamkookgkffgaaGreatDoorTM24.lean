/- Parts of the proof: EOpen. -/
import Derived.Test.YtpamkookgkffgaaGreatDoorTM23
import Derived.Test.YtpamkookgkffgaaGreatDoorTie
import Derived.Test.YtpamkookgkffgaaGreatDoorCards
import Derived.Lib.SmallJoins
import Derived.Lib.LaidTab
import Derived.Deep.Slices
import Derived.Deep.Fields
import Derived.ChangeSame
import Derived.ChangeBook
import Derived.ChangeStays
import Derived.WalkKit
import Derived.ProofKit
import Derived.OpenShut
import Derived.Below
import Derived.LaidMore
import Derived.Lay
import Derived.SevenTiedAt
import Derived.Stop.Joined
import Derived.ChangeMaps5
set_option linter.unusedSectionVars false
set_option linter.unusedVariables false
set_option linter.unusedSimpArgs false
namespace Go.Proofs.A1
open Go Go.SL Go.ChangeShapes Go.WideShapes Go.Deep Go.Joins
section
variable {H:Type} {enc:TypeId × Value → H} {w:World}
theorem laidOut:laidOutB Tryz.prog = true:=by kernel_rfl
theorem ownK:ownKnob Tryz.prog.godebug = none:=by kernel_rfl
theorem add_none {b o n:Nat}:Addr.add ⟨b,o,none⟩ n = ⟨b,o + n,none⟩:=addr_add b o n
theorem staysT {T:TypeId} (hrec:Tryz.prog.readableRec T = true) (hrow:T < Tryz.prog.types.size) {W W':World} {sp':Nat → Bool} {n:Nat} {cs:List Value} {x:DataW H × List MemPlace} (h:DataW.trod enc Tryz.prog W 0 (fun _=>true) true n T cs = some x)
    (hsame:∀ p ∈ x.2,W.sameAt W' p) (hs:∀ p ∈ x.2,sp' p.block = true):DataW.trod enc Tryz.prog W' 0 sp' true n T cs = some x:=
  DataW.trod_stays (kids_book laidOut hrec) (book_sized hrec) (fun h=>by cases h) ⟨hrow,book_self T⟩ h hsame hs
theorem open_rows {α:Type} [Inhabited α] {T E:TypeId} {sz:Nat} {cells:α → List Value} (hu:Tryz.prog.underlying T = some (.slice E)) (hsz:Tryz.prog.cellsOf E = sz) (h0:0 < sz) (hlen:∀ a,(cells a).length = sz)
    (hE:∀ (n:Nat) (cs:List Value) (x:DataW H × List MemPlace),DataW.trod enc Tryz.prog w 0 (fun _=>true) true n E cs = some x → ∃ e:α,cs = cells e)
    {n:Nat} {v:Value} {y:DataW H × List MemPlace} (h:DataW.trod enc Tryz.prog w 0 (fun _=>true) true n T [v] = some y):∃ l:List α,Rd w v sz (l.map cells):=by
  rcases open_slice hu h with ⟨e,_⟩ | ⟨a,len,cap,m,n',D,Pl,hcs,_,hl,hm,hmm,_,hi⟩
  · simp only [List.cons.injEq,and_true] at e
    subst e
    exact ⟨[],Rd.nil w sz⟩
  · simp only [List.cons.injEq,and_true] at hcs
    subst hcs
    rw [hsz] at hi
    have hmc:m = cap:=by simpa using hmm
    have hE:∀ i,i < len → ∃ e:α,∀ j,j < sz → w.cell? (a.add (i * sz + j)) = (cells e)[j]?:=fun i hil=>by
      obtain ⟨cs',hc,ht⟩:=hi i (by omega)
      obtain ⟨_,hcl,hat⟩:=World.cells?_some hc
      obtain ⟨e,rfl⟩:=hE _ _ _ ht
      exact ⟨e,fun j hj=>by rw [← Go.Deep.add_add];exact hat j hj⟩
    let S:Nat → α:=fun i=>if hil:i < len then (hE i hil).choose else default
    have hS:∀ i j,i < len → j < sz → w.cell? (a.add (i * sz + j)) = (cells (S i))[j]?:=fun i j hil hj=>by
      have:=(hE i hil).choose_spec j hj
      simpa only [S,dif_pos hil] using this
    have hlenE:(((List.range len).map S).map cells).length = len:=by simp
    refine ⟨(List.range len).map S,?_⟩
    by_cases hz:len = 0
    · subst hz
      exact ⟨some a,cap,0,0,by rw [hlenE],by rw [hlenE];omega,hm,fun hne=>absurd (List.length_eq_zero_iff.1 hlenE) hne,fun i r hr=>by
        have:=(List.getElem?_eq_some_iff.1 hr).1
        rw [hlenE] at this;omega⟩
    · obtain ⟨b,off,spot⟩:=a
      have hspot:spot = none:=by
        have h1:=hS 0 0 (by omega) h0
        rw [List.getElem?_eq_getElem (by rw [hlen];exact h0)] at h1
        simpa [Addr.add] using World.cell?_spot h1
      subst hspot
      refine ⟨some ⟨b,off,none⟩,cap,b,off,by rw [hlenE],by rw [hlenE];exact hl,hm,fun _=>rfl,fun i r hr=>?_⟩
      have hil:i < len:=by
        have:=(List.getElem?_eq_some_iff.1 hr).1
        rwa [hlenE] at this
      have hr':r = cells (S i):=by
        simp [hil] at hr;exact hr.symm
      subst hr'
      refine ⟨hlen _,fun j u hu=>?_⟩
      have hj:j < sz:=by
        have:=(List.getElem?_eq_some_iff.1 hu).1
        rwa [hlen] at this
      have:=hS i j hil hj
      rw [add_none,hu] at this
      rw [Nat.add_assoc];exact this
theorem list1 {α:Type}:∀ {l:List α},l.length = 1 → ∃ a0,l = [a0]
  | [a0],_=>⟨a0,rfl⟩
theorem list2 {α:Type}:∀ {l:List α},l.length = 2 → ∃ a0 a1,l = [a0,a1]
  | [a0,a1],_=>⟨a0,a1,rfl⟩
theorem list4 {α:Type}:∀ {l:List α},l.length = 4 → ∃ a0 a1 a2 a3,l = [a0,a1,a2,a3]
  | [a0,a1,a2,a3],_=>⟨a0,a1,a2,a3,rfl⟩
theorem list6 {α:Type}:∀ {l:List α},l.length = 6 → ∃ a0 a1 a2 a3 a4 a5,l = [a0,a1,a2,a3,a4,a5]
  | [a0,a1,a2,a3,a4,a5],_=>⟨a0,a1,a2,a3,a4,a5,rfl⟩
theorem wf_u8 {n:Int} (h:(Lit.int .u8 n).wf = true):0 ≤ n ∧ n ≤ 255:=by
  simpa [Lit.wf,IntKind.min,IntKind.max,IntKind.signed,IntKind.bits] using h
theorem c3:Tryz.prog.cellsOf 3 = 1:=by kernel_rfl
theorem c9:Tryz.prog.cellsOf 9 = 1:=by kernel_rfl
theorem c22:Tryz.prog.cellsOf 22 = 1:=by kernel_rfl
theorem c24:Tryz.prog.cellsOf 24 = 1:=by kernel_rfl
theorem c25:Tryz.prog.cellsOf 25 = 1:=by kernel_rfl
theorem c26:Tryz.prog.cellsOf 26 = 1:=by kernel_rfl
theorem c27:Tryz.prog.cellsOf 27 = 1:=by kernel_rfl
theorem c29:Tryz.prog.cellsOf 29 = 4:=by kernel_rfl
theorem c34:Tryz.prog.cellsOf 34 = 2:=by kernel_rfl
theorem c36:Tryz.prog.cellsOf 36 = 6:=by kernel_rfl
theorem c50:Tryz.prog.cellsOf 50 = 4:=by kernel_rfl
theorem c52:Tryz.prog.cellsOf 52 = 2:=by kernel_rfl
theorem cells50 {n:Nat} {cs:List Value} {x:DataW H × List MemPlace} (h:DataW.trod enc Tryz.prog w 0 (fun _=>true) true n 50 cs = some x):∃ (a0:ByteArray) (a1:Int) (a2:Int) (a3:Int),cs = [.string a0,.int .i64 a1,.int .i64 a2,.int .i64 a3]:=by
  obtain ⟨ys,n0,_,_,hlen,hyl,hf⟩:=DataW.trod_struct Tryz.underlying50 h
  rw [c50] at hlen
  have hyl0:ys.length = 4:=hyl
  obtain ⟨k0,k1,k2,k3,rfl⟩:=list4 hlen
  have f0_0:DataW.trod enc Tryz.prog w 0 (fun _=>true) true n0 9 (List.take (Tryz.prog.cellsOf 9) (List.drop 0 [k0,k1,k2,k3])) = ys[0]?:=hf 0 _ rfl
  rw [c9,List.getElem?_eq_getElem (by omega)] at f0_0
  obtain ⟨b0,eb0,_,_⟩:=DataW.trod_string Tryz.underlying9 f0_0
  simp at eb0
  have f0_1:DataW.trod enc Tryz.prog w 0 (fun _=>true) true n0 3 (List.take (Tryz.prog.cellsOf 3) (List.drop 1 [k0,k1,k2,k3])) = ys[1]?:=hf 1 _ rfl
  rw [c3,List.getElem?_eq_getElem (by omega)] at f0_1
  obtain ⟨b1,eb1,_,_⟩:=DataW.trod_int Tryz.underlying3 f0_1
  simp at eb1
  have f0_2:DataW.trod enc Tryz.prog w 0 (fun _=>true) true n0 3 (List.take (Tryz.prog.cellsOf 3) (List.drop 2 [k0,k1,k2,k3])) = ys[2]?:=hf 2 _ rfl
  rw [c3,List.getElem?_eq_getElem (by omega)] at f0_2
  obtain ⟨b2,eb2,_,_⟩:=DataW.trod_int Tryz.underlying3 f0_2
  simp at eb2
  have f0_3:DataW.trod enc Tryz.prog w 0 (fun _=>true) true n0 3 (List.take (Tryz.prog.cellsOf 3) (List.drop 3 [k0,k1,k2,k3])) = ys[3]?:=hf 3 _ rfl
  rw [c3,List.getElem?_eq_getElem (by omega)] at f0_3
  obtain ⟨b3,eb3,_,_⟩:=DataW.trod_int Tryz.underlying3 f0_3
  simp at eb3
  subst eb0 eb1 eb2 eb3
  exact ⟨b0,b1,b2,b3,rfl⟩
theorem cells52 {n:Nat} {cs:List Value} {x:DataW H × List MemPlace} (h:DataW.trod enc Tryz.prog w 0 (fun _=>true) true n 52 cs = some x):∃ a0 a1:Int,cs = [.int .i64 a0,.int .i64 a1]:=by
  obtain ⟨ys,n0,_,_,hlen,hyl,hf⟩:=DataW.trod_array Tryz.underlying52 h
  rw [c52] at hlen
  obtain ⟨k0,k1,rfl⟩:=list2 hlen
  have key:∀ i,i < 2 → DataW.trod enc Tryz.prog w 0 (fun _=>true) true n0 3 (List.take 1 (List.drop i [k0,k1])) = ys[i]?:=fun i hi=>by
    have:=hf i hi
    rwa [c3,Nat.mul_one] at this
  have f0:=key 0 (by omega)
  have f1:=key 1 (by omega)
  rw [List.getElem?_eq_getElem (by omega)] at f0 f1
  obtain ⟨b0,e0,_,_⟩:=DataW.trod_int Tryz.underlying3 f0
  obtain ⟨b1,e1,_,_⟩:=DataW.trod_int Tryz.underlying3 f1
  simp at e0 e1
  subst e0 e1
  exact ⟨b0,b1,rfl⟩
theorem cells29 {n:Nat} {cs:List Value} {x:DataW H × List MemPlace} (h:DataW.trod enc Tryz.prog w 0 (fun _=>true) true n 29 cs = some x):∃ (a0:Int) (a1:Value) (a2:Value) (a3:Value),cs = [.int .i64 a0,a1,a2,a3] ∧ (∃ (m:Nat) (y:DataW H × List MemPlace),DataW.trod enc Tryz.prog w 0 (fun _=>true) true m 25 [a1] = some y) ∧ (∃ (m:Nat) (y:DataW H × List MemPlace),DataW.trod enc Tryz.prog w 0 (fun _=>true) true m 26 [a2] = some y) ∧ (∃ (m:Nat) (y:DataW H × List MemPlace),DataW.trod enc Tryz.prog w 0 (fun _=>true) true m 27 [a3] = some y):=by
  obtain ⟨ys,n0,_,_,hlen,hyl,hf⟩:=DataW.trod_struct Tryz.underlying29 h
  rw [c29] at hlen
  have hyl0:ys.length = 4:=hyl
  obtain ⟨k0,k1,k2,k3,rfl⟩:=list4 hlen
  have f0_0:DataW.trod enc Tryz.prog w 0 (fun _=>true) true n0 3 (List.take (Tryz.prog.cellsOf 3) (List.drop 0 [k0,k1,k2,k3])) = ys[0]?:=hf 0 _ rfl
  rw [c3,List.getElem?_eq_getElem (by omega)] at f0_0
  obtain ⟨b0,eb0,_,_⟩:=DataW.trod_int Tryz.underlying3 f0_0
  simp at eb0
  have f0_1:DataW.trod enc Tryz.prog w 0 (fun _=>true) true n0 25 (List.take (Tryz.prog.cellsOf 25) (List.drop 1 [k0,k1,k2,k3])) = ys[1]?:=hf 1 _ rfl
  rw [c25,List.getElem?_eq_getElem (by omega)] at f0_1
  have f0_2:DataW.trod enc Tryz.prog w 0 (fun _=>true) true n0 26 (List.take (Tryz.prog.cellsOf 26) (List.drop 2 [k0,k1,k2,k3])) = ys[2]?:=hf 2 _ rfl
  rw [c26,List.getElem?_eq_getElem (by omega)] at f0_2
  have f0_3:DataW.trod enc Tryz.prog w 0 (fun _=>true) true n0 27 (List.take (Tryz.prog.cellsOf 27) (List.drop 3 [k0,k1,k2,k3])) = ys[3]?:=hf 3 _ rfl
  rw [c27,List.getElem?_eq_getElem (by omega)] at f0_3
  subst eb0
  exact ⟨b0,k1,k2,k3,rfl,⟨_,_,by simpa using f0_1⟩,⟨_,_,by simpa using f0_2⟩,⟨_,_,by simpa using f0_3⟩⟩
theorem cells24 {n:Nat} {cs:List Value} {x:DataW H × List MemPlace} (h:DataW.trod enc Tryz.prog w 0 (fun _=>true) true n 24 cs = some x):∃ (a0:Value),cs = [a0] ∧ (∃ (m:Nat) (y:DataW H × List MemPlace),DataW.trod enc Tryz.prog w 0 (fun _=>true) true m 22 [a0] = some y):=by
  obtain ⟨ys,n0,_,_,hlen,hyl,hf⟩:=DataW.trod_struct Tryz.underlying24 h
  rw [c24] at hlen
  have hyl0:ys.length = 1:=hyl
  obtain ⟨k0,rfl⟩:=list1 hlen
  have f0_0:DataW.trod enc Tryz.prog w 0 (fun _=>true) true n0 22 (List.take (Tryz.prog.cellsOf 22) (List.drop 0 [k0])) = ys[0]?:=hf 0 _ rfl
  rw [c22,List.getElem?_eq_getElem (by omega)] at f0_0
  exact ⟨k0,rfl,⟨_,_,by simpa using f0_0⟩⟩
theorem ent_cells {n:Nat} {cs:List Value} {x:DataW H × List MemPlace} (h:DataW.trod enc Tryz.prog w 0 (fun _=>true) true n 36 cs = some x):∃ e:En,cs = e.cells:=by
  obtain ⟨ys,n',_,_,hlen,hyl,hf⟩:=DataW.trod_struct Tryz.underlying36 h
  rw [c36] at hlen
  have hyl5:ys.length = 5:=hyl
  obtain ⟨k0,k1,k2,k3,k4,k5,rfl⟩:=list6 hlen
  have f0:DataW.trod enc Tryz.prog w 0 (fun _=>true) true n' 9 (List.take (Tryz.prog.cellsOf 9) (List.drop 0 [k0,k1,k2,k3,k4,k5])) = ys[0]?:=hf 0 _ rfl
  rw [c9,List.getElem?_eq_getElem (by omega)] at f0
  have f1:DataW.trod enc Tryz.prog w 0 (fun _=>true) true n' 9 (List.take (Tryz.prog.cellsOf 9) (List.drop 1 [k0,k1,k2,k3,k4,k5])) = ys[1]?:=hf 1 _ rfl
  rw [c9,List.getElem?_eq_getElem (by omega)] at f1
  have f2:DataW.trod enc Tryz.prog w 0 (fun _=>true) true n' 34 (List.take (Tryz.prog.cellsOf 34) (List.drop 2 [k0,k1,k2,k3,k4,k5])) = ys[2]?:=hf 2 _ rfl
  rw [c34,List.getElem?_eq_getElem (by omega)] at f2
  have f3:DataW.trod enc Tryz.prog w 0 (fun _=>true) true n' 3 (List.take (Tryz.prog.cellsOf 3) (List.drop 4 [k0,k1,k2,k3,k4,k5])) = ys[3]?:=hf 3 _ rfl
  rw [c3,List.getElem?_eq_getElem (by omega)] at f3
  have f4:DataW.trod enc Tryz.prog w 0 (fun _=>true) true n' 3 (List.take (Tryz.prog.cellsOf 3) (List.drop 5 [k0,k1,k2,k3,k4,k5])) = ys[4]?:=hf 4 _ rfl
  rw [c3,List.getElem?_eq_getElem (by omega)] at f4
  obtain ⟨s0,e0,_,_⟩:=DataW.trod_string Tryz.underlying9 f0
  obtain ⟨s1,e1,_,_⟩:=DataW.trod_string Tryz.underlying9 f1
  obtain ⟨i3,e3,_,_⟩:=DataW.trod_int Tryz.underlying3 f3
  obtain ⟨i4,e4,_,_⟩:=DataW.trod_int Tryz.underlying3 f4
  obtain ⟨zs,n2,_,_,_,hzl,hg⟩:=DataW.trod_struct Tryz.underlying34 f2
  have hzl2:zs.length = 2:=hzl
  have g0:DataW.trod enc Tryz.prog w 0 (fun _=>true) true n2 9 (List.take (Tryz.prog.cellsOf 9) (List.drop 0 (List.take 2 (List.drop 2 [k0,k1,k2,k3,k4,k5])))) = zs[0]?:=hg 0 _ rfl
  rw [c9,List.getElem?_eq_getElem (by omega)] at g0
  have g1:DataW.trod enc Tryz.prog w 0 (fun _=>true) true n2 3 (List.take (Tryz.prog.cellsOf 3) (List.drop 1 (List.take 2 (List.drop 2 [k0,k1,k2,k3,k4,k5])))) = zs[1]?:=hg 1 _ rfl
  rw [c3,List.getElem?_eq_getElem (by omega)] at g1
  obtain ⟨s2,e2,_,_⟩:=DataW.trod_string Tryz.underlying9 g0
  obtain ⟨i2,e5,_,_⟩:=DataW.trod_int Tryz.underlying3 g1
  simp at e0 e1 e2 e3 e4 e5
  subst e0 e1 e2 e3 e4 e5
  exact ⟨⟨s0,s1,s2,i2,i3,i4⟩,rfl⟩
theorem open_ens {n:Nat} {v:Value} {y:DataW H × List MemPlace} (h:DataW.trod enc Tryz.prog w 0 (fun _=>true) true n 22 [v] = some y):∃ es,Rd w v 6 (ensL es):=by
  haveI:Inhabited En:=⟨En.zero⟩
  exact open_rows (cells:=En.cells) Tryz.underlying22 c36 (by decide) (fun _=>rfl) (fun _ _ _ h=>ent_cells h) h
theorem open_sched {n:Nat} {sv:Value} {x:DataW H × List MemPlace} (h:DataW.trod enc Tryz.prog w 0 (fun _=>true) true n 24 [sv] = some x):∃ es,Rd w sv 6 (ensL es):=by
  obtain ⟨a,e,m,y,h2⟩:=cells24 h
  simp only [List.cons.injEq,and_true] at e
  subst e
  exact open_ens h2
theorem open_ints {n:Nat} {v:Value} {x:DataW H × List MemPlace} (h:DataW.trod enc Tryz.prog w 0 (fun _=>true) true n 26 [v] = some x):∃ l,Rd w v 1 (ints l):=
  open_rows (α:=Int) (cells:=fun e=>[.int .i64 e]) Tryz.underlying26 c3 (by decide) (fun _=>rfl) (fun _ _ _ h=>by obtain ⟨a,rfl,_⟩:=DataW.trod_int Tryz.underlying3 h;exact ⟨a,rfl⟩) h
theorem open_sps {n:Nat} {v:Value} {x:DataW H × List MemPlace} (h:DataW.trod enc Tryz.prog w 0 (fun _=>true) true n 25 [v] = some x):∃ l,Rd w v 4 (spsL l):=by
  haveI:Inhabited Sp:=⟨⟨⟨#[]⟩,0,0,0⟩⟩
  exact open_rows (cells:=Sp.cells) Tryz.underlying25 c50 (by decide) (fun _=>rfl) (fun _ _ _ h=>by obtain ⟨a,b,c,d,rfl⟩:=cells50 h;exact ⟨⟨a,b,c,d⟩,rfl⟩) h
theorem open_prs {n:Nat} {v:Value} {x:DataW H × List MemPlace} (h:DataW.trod enc Tryz.prog w 0 (fun _=>true) true n 27 [v] = some x):∃ l,Rd w v 2 (prsL l):=
  open_rows (α:=Int × Int) (cells:=prV) Tryz.underlying27 c52 (by decide) (fun _=>rfl) (fun _ _ _ h=>by obtain ⟨a,b,rfl⟩:=cells52 h;exact ⟨(a,b),rfl⟩) h
theorem open_brk {n:Nat} {cs:List Value} {x:DataW H × List MemPlace} (h:DataW.trod enc Tryz.prog w 0 (fun _=>true) true n 29 cs = some x):∃ (b:Br) (sv cv xv:Value),cs = [.int .i64 b.n,sv,cv,xv] ∧ Rd w sv 4 (spsL b.sp) ∧ Rd w cv 1 (ints b.cm) ∧ Rd w xv 2 (prsL b.ex):=by
  obtain ⟨a,sv,cv,xv,rfl,⟨_,_,h1⟩,⟨_,_,h2⟩,⟨_,_,h3⟩⟩:=cells29 h
  obtain ⟨l1,r1⟩:=open_sps h1
  obtain ⟨l2,r2⟩:=open_ints h2
  obtain ⟨l3,r3⟩:=open_prs h3
  exact ⟨⟨a,l1,l2,l3⟩,sv,cv,xv,rfl,r1,r2,r3⟩
end
theorem globs_of {W:World} {H:Type} {enc:TypeId × Value → H} {f3:Nat} {cs3:Array Value} {p3:List MemPlace} {s3:Nat → Bool} (hv3:W.var? Tryz.prog "genlock/code.rates" = some cs3) (hd3:DataW.trod enc Tryz.prog W 0 s3 false f3 159 cs3.toList = some (.agg [.lit (.int .i64 24),.lit (.int .i64 25),.lit (.int .i64 30)],p3)):GlobR W:=by
  have hg3:Tryz.prog.globalNamed "genlock/code.rates" = some 1:=by kernel_rfl
  obtain ⟨xs,m,_,ex,_,hl,hel⟩:=DataW.trod_array Tryz.underlying159 hd3
  have e3:(xs.map (·.1)) = [.lit (.int .i64 24),.lit (.int .i64 25),.lit (.int .i64 30)]:=(DataW.agg.inj (Prod.mk.inj ex).1).symm
  have key:∀ (i:Nat) (z:Int),i < 3 → (xs.map (·.1))[i]? = some (.lit (.int .i64 z)) → W.cell? ⟨1,i,none⟩ = some (.int .i64 z):=fun i z hi h1=>by
    have hE:=hel i hi
    rw [c3,Nat.mul_one,List.getElem?_eq_getElem (by omega)] at hE
    obtain ⟨y,e1,e2,_⟩:=DataW.trod_int Tryz.underlying3 hE
    rw [List.getElem?_map,List.getElem?_eq_getElem (by omega:i < xs.length),e2] at h1
    simp only [Option.map_some,Option.some.injEq,DataW.lit.injEq,Lit.int.injEq,true_and] at h1
    subst h1
    rw [World.var?_cell hg3 hv3 i]
    have:cs3.toList[i]? = some (.int .i64 y):=by
      have h0:((cs3.toList.drop i).take 1)[0]? = some (.int .i64 y):=by rw [e1];rfl
      simpa using h0
    simpa using this
  exact ⟨key 0 24 (by omega) (by rw [e3];rfl),key 1 25 (by omega) (by rw [e3];rfl),key 2 30 (by omega) (by rw [e3];rfl)⟩
theorem globN_of {W:World} {H:Type} {enc:TypeId × Value → H} {f3:Nat} {cs3:Array Value} {p3:List MemPlace} {s3:Nat → Bool} (hv3:W.var? Tryz.prog "genlock/schedule.names" = some cs3) (hd3:DataW.trod enc Tryz.prog W 0 s3 false f3 118 cs3.toList = some (.agg [.lit (.string [102,105,120,101,100]),.lit (.string [102,111,108,108,111,119,105,110,103]),.lit (.string [109,97,110,117,97,108])],p3)):Glob W:=by
  have hg3:Tryz.prog.globalNamed "genlock/schedule.names" = some 0:=by kernel_rfl
  obtain ⟨xs,m,_,ex,_,hl,hel⟩:=DataW.trod_array Tryz.underlying118 hd3
  have e3:(xs.map (·.1)) = [.lit (.string [102,105,120,101,100]),.lit (.string [102,111,108,108,111,119,105,110,103]),.lit (.string [109,97,110,117,97,108])]:=(DataW.agg.inj (Prod.mk.inj ex).1).symm
  have key:∀ (i:Nat) (l:List UInt8) (s:ByteArray),i < 3 → (xs.map (·.1))[i]? = some (.lit (.string l)) → s.data.toList = l → W.cell? ⟨0,i,none⟩ = some (.string s):=fun i l s hi h1 hs=>by
    have hE:=hel i hi
    rw [c9,Nat.mul_one,List.getElem?_eq_getElem (by omega)] at hE
    obtain ⟨z,e1,e2,_⟩:=DataW.trod_string Tryz.underlying9 hE
    rw [List.getElem?_map,List.getElem?_eq_getElem (by omega:i < xs.length),e2] at h1
    simp only [Option.map_some,Option.some.injEq,DataW.lit.injEq,Lit.string.injEq] at h1
    have hz:z = s:=by
      have:z.data = s.data:=Array.ext' (h1.trans hs.symm)
      cases z;cases s;simpa using this
    subst hz
    rw [World.var?_cell hg3 hv3 i]
    have:cs3.toList[i]? = some (.string z):=by
      have h0:((cs3.toList.drop i).take 1)[0]? = some (.string z):=by rw [e1];rfl
      simpa using h0
    simpa using this
  exact ⟨key 0 _ sFix (by omega) (by rw [e3];rfl) rfl,key 1 _ sFol (by omega) (by rw [e3];rfl) rfl,key 2 _ sMan (by omega) (by rw [e3];rfl) rfl⟩
theorem of_laid2 {W:World} (h:laidMetH Tryz.prog YtpamkookgkffgaaGreatDoor.Rows.topCraneTitledRow.laid W):GlobR W ∧ Glob W:=by
  rw [MakeChecks.laidMetH_plain _ _ _ (by kernel_rfl)] at h
  obtain ⟨ps,⟨g3,t3,cs3,f3,p3,q3,hg3,ht3,hv3,hd3,⟨g2,t2,cs2,f2,p2,q2,hg2,ht2,hv2,hd2,_,_⟩,_⟩,_,_⟩:=h
  obtain rfl:=Option.some.inj ((show Tryz.prog.globalNamed "genlock/code.rates" = some 1 by kernel_rfl).symm.trans hg3)
  obtain rfl:=Option.some.inj ((show (Tryz.prog.globals[1]?).map (·.type) = some 159 by kernel_rfl).symm.trans ht3)
  obtain rfl:=Option.some.inj ((show Tryz.prog.globalNamed "genlock/schedule.names" = some 0 by kernel_rfl).symm.trans hg2)
  obtain rfl:=Option.some.inj ((show (Tryz.prog.globals[0]?).map (·.type) = some 118 by kernel_rfl).symm.trans ht2)
  exact ⟨globs_of hv3 hd3,globN_of hv2 hd2⟩
end Go.Proofs.A1
namespace Go.Proofs.YtpamkookgkffgaaGreatDoor
open Go Go.SL Go.Proofs.A1 Go.ChangeShapes Go.WideShapes Go.ChangeAt Go.RowKit Go.Joins
section
variable {H:Type} {enc:TypeId × Value → H} {P:Program}
theorem post_of_below {f:Func} {s:ChangeSpec} {apart fresh handsOn again:Bool} {W W':World} {args:Array Value} {v:Value} {ds gs:List (DataW H)} {before pa pv:List MemPlace}
    (hW:DataW.Whole enc P f.params.toList s.vars apart W args.toList ds gs before)
    (hres:∀ (b:Nat) (sp:Nat → Bool) (hd:Bool),DataW.TrodAll enc P W' b sp hd f.resultTypes.toList (v.resultList f.resultTypes.size) (s.fn H (ds++gs)).results [])
    (hargs:∀ sp:Nat → Bool,(∀ p ∈ before,sp p.block = true) → DataW.TrodAll enc P W' 0 sp true f.params.toList args.toList (s.fn H (ds++gs)).args pa)
    (hvars:∀ sp:Nat → Bool,(∀ p ∈ before,sp p.block = true) → DataW.TrodVars enc P W' sp s.vars (s.fn H (ds++gs)).vars pv)
    (hps:before = pa++pv) (hb:Below W.heap.size W W')
    (hok:∀ (j:Nat) (t:TypeId) (r:Value),f.resultTypes[j]? = some t → (v.resultList f.resultTypes.size)[j]? = some r → Value.okWide P W' .any 0 t r) :
    s.post enc P f apart fresh handsOn again W args v W':=by
  have hlt:∀ p ∈ before,p.block < W.heap.size:=fun p hp=>hW.lt p hp
  have hold:∀ p ∈ before,(fun b=>decide (b < W.heap.size)) p.block = true:=fun p hp=>by simpa using hlt p hp
  refine ⟨ds,gs,before,[],pa,pv,hW,hres _ _ _,hargs _ hold,hvars _ hold,World.keptBut_mono (fun p hp=>⟨hp,?_⟩) (hb.frame (· ∈ before)),fun _=>?_⟩
  · rw [hps,List.mem_append] at hp
    exact Or.inr hp
  · obtain ⟨_,_,_,_,_,hz,hn⟩:=hW
    refine ⟨hok,_,_,([]++pa)++pv,⟨[]++pa,pv,trodAll_append (hargs _ (fun _ _=>rfl)) (hres _ _ _),hvars _ (fun _ _=>rfl),rfl,?_,?_⟩,?_⟩
    · intro b off hp
      have hin:MemPlace.cell b off ∈ before:=by rw [hps];simpa using hp
      rw [hb.frozen (hlt _ hin)]
      exact hz b off hin
    · intro ha
      have:=hn ha
      rw [hps] at this
      simpa using this
    · intro p hp _
      rw [hps]
      simpa using hp
end
end Go.Proofs.YtpamkookgkffgaaGreatDoor
