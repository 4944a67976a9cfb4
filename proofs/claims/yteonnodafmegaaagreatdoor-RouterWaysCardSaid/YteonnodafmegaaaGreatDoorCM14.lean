/- Parts of the proof: POpen LQ LR LS LT LU LV LW LX LY P6c P6e LZ MA MB. -/
import Derived.Test.YteonnodafmegaaaGreatDoorCM13
import Derived.Test.YteonnodafmegaaaGreatDoorTie
import Derived.Test.YteonnodafmegaaaGreatDoorCards
import Derived.Lib.SmallJoins
import Derived.Lib.LaidTab
import Derived.Deep.Slices
import Derived.Deep.Fields
import Derived.ChangeSame
import Derived.ChangeBook
import Derived.ChangeStays
import Derived.WalkKit
import Derived.ProofKit
import Derived.OpenShut
import Derived.Below
import Derived.LaidMore
import Derived.Lay
import Derived.SevenTiedAt
import Derived.Stop.Joined
import Derived.ChangeMaps5
import Derived.Test.YteonnodafmegaaaGreatDoorCM04
import Derived.Test.YteonnodafmegaaaGreatDoorCM10
import Derived.Test.YteonnodafmegaaaGreatDoorCM06
set_option linter.unusedSectionVars false
set_option linter.unusedVariables false
set_option linter.unusedSimpArgs false
namespace Go.Proofs.A1
open Go Go.SL Go.ChangeShapes Go.WideShapes Go.Deep Go.Joins
open Tryz
open Tryz renaming prog->T_
section
variable {H:Type} {enc:TypeId×Value->H} {w:World}
theorem laidOut:laidOutB T_=true:=by kernel_rfl
theorem WH:ownKnob prog.godebug=none:=by kernel_rfl
theorem Lb {b o n:Nat}:Addr.add ⟨b,o,none⟩ n=⟨b,o+n,none⟩:=ez b o n
theorem CU {T:TypeId} (Nr:prog.readableRec T=true) (hrow:T<prog.types.size) {W W':World} {YT:Nat->Bool} {n:Nat} {cs:List Value} {x:DataW H×List MemPlace} (h:DataW.trod enc T_ W 0 (fun _=>true) true n T cs=some x)
  (Jf:∀ p∈x.2,W.sameAt W' p) (hs:∀ p∈x.2,YT p.block=true):DataW.trod enc T_ W' 0 YT true n T cs=some x:=
 DataW.trod_stays (kids_book laidOut Nr) (book_sized Nr) (fun h=>by cases h) ⟨hrow,book_self T⟩ h Jf hs
theorem Dh {α:Type} [Inhabited α] {Q:α->Prop} {T E:TypeId} {sz:Nat} {cells:α->List Value} (hu:prog.underlying T=some (.slice E)) (hsz:prog.cellsOf E=sz) (h0:0<sz) (hlen:∀ a,(cells a).length=sz)
  (hE:∀ (n:Nat) (cs:List Value) (x:DataW H×List MemPlace),DataW.trod enc T_ w 0 (fun _=>true) true n E cs=some x->∃ e:α,cs=cells e/\Q e)
  {n:Nat} {v:Value} {y:DataW H×List MemPlace} (h:DataW.trod enc T_ w 0 (fun _=>true) true n T [v]=some y):∃ l:List α,Rd w v sz (l.map cells)/\∀ x∈l,Q x:=by
 rcases open_slice hu h with ⟨e,_⟩ | ⟨a,len,cap,m,n',D,Pl,Pe,_,hl,hm,hmm,_,hi⟩
 ·simp only [List.cons.injEq,and_true] at e;subst e;exact ⟨[],Rd.nil w sz,fun _ h=>absurd h List.not_mem_nil⟩
 ·simp only [List.cons.injEq,and_true] at Pe;subst Pe;rw [hsz] at hi;have O6:m=cap:=by simpa using hmm
  have hE:∀ i,i<len->∃ e:α,(∀ j,j<sz->w.cell? (a.add (i*sz+j))=(cells e)[j]?)/\Q e:=fun i il=>by
   obtain ⟨PD,hc,ht⟩:=hi i (by omega);obtain ⟨_,iH,ja⟩:=World.cells?_some hc;obtain ⟨e,rfl,hq⟩:=hE _ _ _ ht;exact ⟨e,fun j hj=>by rw [<- Go.Deep.add_add];exact ja j hj,hq⟩
  let S:Nat->α:=fun i=>if il:i<len then (hE i il).choose else default
  have hS:∀ i j,i<len->j<sz->w.cell? (a.add (i*sz+j))=(cells (S i))[j]?:=fun i j il hj=>by
   have:=(hE i il).choose_spec.1 j hj;simpa only [S,dif_pos il] using this
  have hQ:∀ i,i<len->Q (S i):=fun i il=>by
   have:=(hE i il).choose_spec.2;simpa only [S,dif_pos il] using this
  have vT:(((List.range len).map S).map cells).length=len:=by simp
  refine ⟨(List.range len).map S,?_,fun x hx=>by
   obtain ⟨i,hi,rfl⟩:=List.mem_map.1 hx;exact hQ i (List.mem_range.1 hi)⟩
  by_cases hz:len=0
  ·subst hz;exact ⟨some a,cap,0,0,by rw [vT],by rw [vT];omega,hm,fun hne=>absurd (List.length_eq_zero_iff.1 vT) hne,fun i r hr=>by
    have:=(List.getElem?_eq_some_iff.1 hr).1;rw [vT] at this;omega⟩
  ·obtain ⟨b,off,spot⟩:=a;have TW:spot=none:=by
    have h1:=hS 0 0 (by omega) h0;rw [Zc (by rw [hlen];exact h0)] at h1;simpa [Addr.add] using World.cell?_spot h1
   subst TW;refine ⟨some ⟨b,off,none⟩,cap,b,off,by rw [vT],by rw [vT];exact hl,hm,fun _=>rfl,fun i r hr=>?_⟩;have il:i<len:=by
    have:=(List.getElem?_eq_some_iff.1 hr).1;rwa [vT] at this
   have LA:r=cells (S i):=by
    simp [il] at hr;exact hr.symm
   subst LA;refine ⟨hlen _,fun j u hu=>?_⟩;have hj:j<sz:=by
    have:=(List.getElem?_eq_some_iff.1 hu).1;rwa [hlen] at this
   have:=hS i j il hj;rw [Lb,hu] at this;rw [Nat.add_assoc];exact this
theorem mQ {α:Type} [Inhabited α] {T E:TypeId} {sz:Nat} {cells:α->List Value} (hu:prog.underlying T=some (.slice E)) (hsz:prog.cellsOf E=sz) (h0:0<sz) (hlen:∀ a,(cells a).length=sz)
  (hE:∀ (n:Nat) (cs:List Value) (x:DataW H×List MemPlace),DataW.trod enc T_ w 0 (fun _=>true) true n E cs=some x->∃ e:α,cs=cells e)
  {n:Nat} {v:Value} {y:DataW H×List MemPlace} (h:DataW.trod enc T_ w 0 (fun _=>true) true n T [v]=some y):∃ l:List α,Rd w v sz (l.map cells):=by
 obtain ⟨l,hl,_⟩:=Dh (Q:=fun _=>True) hu hsz h0 hlen (fun n cs x h=>by obtain ⟨e,he⟩:=hE n cs x h;exact ⟨e,he,trivial⟩) h;exact ⟨l,hl⟩
theorem TH {α:Type}:∀ {l:List α},l.length=2->∃ a0 a1,l=[a0,a1]
 | [a0,a1],_=>⟨a0,a1,rfl⟩
theorem ER {α:Type}:∀ {l:List α},l.length=3->∃ a0 a1 a2,l=[a0,a1,a2]
 | [a0,a1,a2],_=>⟨a0,a1,a2,rfl⟩
theorem TG {α:Type}:∀ {l:List α},l.length=6->∃ a0 a1 a2 a3 a4 a5,l=[a0,a1,a2,a3,a4,a5]
 | [a0,a1,a2,a3,a4,a5],_=>⟨a0,a1,a2,a3,a4,a5,rfl⟩
theorem Vc:prog.cellsOf 118=2:=by kernel_rfl
theorem c9:prog.cellsOf 9=1:=by kernel_rfl
theorem c3:prog.cellsOf 3=1:=by kernel_rfl
theorem KQ {n:Nat} {cs:List Value} {x:DataW H×List MemPlace} (h:DataW.trod enc T_ w 0 (fun _=>true) true n 118 cs=some x):∃ (a0:ByteArray) (a1:Int),cs=[.string a0,.int .i64 a1]:=by
 obtain ⟨ys,n0,_,_,hlen,I2,hf⟩:=DataW.trod_struct underlying118 h;rw [Vc] at hlen;have I1:ys.length=2:=I2;obtain ⟨k0,k1,rfl⟩:=TH hlen;have f0:DataW.trod enc T_ w 0 (fun _=>true) true n0 9 (List.take (prog.cellsOf 9) (List.drop 0 [k0,k1]))=ys[0]?:=hf 0 _ I
 rw [c9,Zc (by omega)] at f0;obtain ⟨b0,e0,_,_⟩:=DataW.trod_string underlying9 f0;simp at e0;have f1:DataW.trod enc T_ w 0 (fun _=>true) true n0 3 (List.take (prog.cellsOf 3) (List.drop 1 [k0,k1]))=ys[1]?:=hf 1 _ I
 rw [c3,Zc (by omega)] at f1;obtain ⟨b1,e1,_,_⟩:=DataW.trod_int underlying3 f1;simp at e1;subst e0 e1;exact ⟨b0,b1,I⟩
theorem Z5:prog.cellsOf 88=3:=by kernel_rfl
theorem c4:prog.cellsOf 4=1:=by kernel_rfl
theorem Of {n:Nat} {cs:List Value} {x:DataW H×List MemPlace} (h:DataW.trod enc T_ w 0 (fun _=>true) true n 88 cs=some x):∃ (a0:ByteArray) (a1:Int) (a2:Bool),cs=[.string a0,.int .i64 a1,.bool a2]:=by
 obtain ⟨ys,n0,_,_,hlen,I2,hf⟩:=DataW.trod_struct underlying88 h;rw [Z5] at hlen;have I1:ys.length=3:=I2;obtain ⟨k0,k1,k2,rfl⟩:=ER hlen;have f0:DataW.trod enc T_ w 0 (fun _=>true) true n0 9 (List.take (prog.cellsOf 9) (List.drop 0 [k0,k1,k2]))=ys[0]?:=hf 0 _ I
 rw [c9,Zc (by omega)] at f0;obtain ⟨b0,e0,_,_⟩:=DataW.trod_string underlying9 f0;simp at e0;have f1:DataW.trod enc T_ w 0 (fun _=>true) true n0 3 (List.take (prog.cellsOf 3) (List.drop 1 [k0,k1,k2]))=ys[1]?:=hf 1 _ I
 rw [c3,Zc (by omega)] at f1;obtain ⟨b1,e1,_,_⟩:=DataW.trod_int underlying3 f1;simp at e1;have f2:DataW.trod enc T_ w 0 (fun _=>true) true n0 4 (List.take (prog.cellsOf 4) (List.drop 2 [k0,k1,k2]))=ys[2]?:=hf 2 _ I
 rw [c4,Zc (by omega)] at f2;obtain ⟨b2,e2,_⟩:=DataW.trod_bool underlying4 f2;simp at e2;subst e0 e1 e2;exact ⟨b0,b1,b2,I⟩
theorem Vb:prog.cellsOf 122=3:=by kernel_rfl
theorem KP {n:Nat} {cs:List Value} {x:DataW H×List MemPlace} (h:DataW.trod enc T_ w 0 (fun _=>true) true n 122 cs=some x):∃ (a0:ByteArray) (a1:Int) (a2:Int),cs=[.string a0,.int .i64 a1,.int .i64 a2]:=by
 obtain ⟨ys,n0,_,_,hlen,I2,hf⟩:=DataW.trod_struct underlying122 h;rw [Vb] at hlen;have I1:ys.length=3:=I2;obtain ⟨k0,k1,k2,rfl⟩:=ER hlen;have f0:DataW.trod enc T_ w 0 (fun _=>true) true n0 9 (List.take (prog.cellsOf 9) (List.drop 0 [k0,k1,k2]))=ys[0]?:=hf 0 _ I
 rw [c9,Zc (by omega)] at f0;obtain ⟨b0,e0,_,_⟩:=DataW.trod_string underlying9 f0;simp at e0;have f1:DataW.trod enc T_ w 0 (fun _=>true) true n0 3 (List.take (prog.cellsOf 3) (List.drop 1 [k0,k1,k2]))=ys[1]?:=hf 1 _ I
 rw [c3,Zc (by omega)] at f1;obtain ⟨b1,e1,_,_⟩:=DataW.trod_int underlying3 f1;simp at e1;have f2:DataW.trod enc T_ w 0 (fun _=>true) true n0 3 (List.take (prog.cellsOf 3) (List.drop 2 [k0,k1,k2]))=ys[2]?:=hf 2 _ I
 rw [c3,Zc (by omega)] at f2;obtain ⟨b2,e2,_,_⟩:=DataW.trod_int underlying3 f2;simp at e2;subst e0 e1 e2;exact ⟨b0,b1,b2,I⟩
theorem Va:prog.cellsOf 180=3:=by kernel_rfl
theorem KO {n:Nat} {cs:List Value} {x:DataW H×List MemPlace} (h:DataW.trod enc T_ w 0 (fun _=>true) true n 180 cs=some x):∃ (a0:Int) (a1:ByteArray) (a2:ByteArray),cs=[.int .i64 a0,.string a1,.string a2]:=by
 obtain ⟨ys,n0,_,_,hlen,I2,hf⟩:=DataW.trod_struct underlying180 h;rw [Va] at hlen;have I1:ys.length=3:=I2;obtain ⟨k0,k1,k2,rfl⟩:=ER hlen;have f0:DataW.trod enc T_ w 0 (fun _=>true) true n0 3 (List.take (prog.cellsOf 3) (List.drop 0 [k0,k1,k2]))=ys[0]?:=hf 0 _ I
 rw [c3,Zc (by omega)] at f0;obtain ⟨b0,e0,_,_⟩:=DataW.trod_int underlying3 f0;simp at e0;have f1:DataW.trod enc T_ w 0 (fun _=>true) true n0 9 (List.take (prog.cellsOf 9) (List.drop 1 [k0,k1,k2]))=ys[1]?:=hf 1 _ I
 rw [c9,Zc (by omega)] at f1;obtain ⟨b1,e1,_,_⟩:=DataW.trod_string underlying9 f1;simp at e1;have f2:DataW.trod enc T_ w 0 (fun _=>true) true n0 9 (List.take (prog.cellsOf 9) (List.drop 2 [k0,k1,k2]))=ys[2]?:=hf 2 _ I
 rw [c9,Zc (by omega)] at f2;obtain ⟨b2,e2,_,_⟩:=DataW.trod_string underlying9 f2;simp at e2;subst e0 e1 e2;exact ⟨b0,b1,b2,I⟩
theorem c27:prog.cellsOf 27=6:=by kernel_rfl
theorem c22:prog.cellsOf 22=1:=by kernel_rfl
theorem c23:prog.cellsOf 23=1:=by kernel_rfl
theorem c24:prog.cellsOf 24=1:=by kernel_rfl
theorem c25:prog.cellsOf 25=1:=by kernel_rfl
theorem Oh {n:Nat} {cs:List Value} {x:DataW H×List MemPlace} (h:DataW.trod enc T_ w 0 (fun _=>true) true n 27 cs=some x):∃ (a0:Int) (a1:Int) (a2:Value) (a3:Value) (a4:Value) (a5:Value),cs=[.int .i64 a0,.int .i64 a1,a2,a3,a4,a5]/\(∃ (m:Nat) (y:DataW H×List MemPlace),DataW.trod enc T_ w 0 (fun _=>true) true m 22 [a2]=some y)/\(∃ (m:Nat) (y:DataW H×List MemPlace),DataW.trod enc T_ w 0 (fun _=>true) true m 23 [a3]=some y)/\(∃ (m:Nat) (y:DataW H×List MemPlace),DataW.trod enc T_ w 0 (fun _=>true) true m 24 [a4]=some y)/\(∃ (m:Nat) (y:DataW H×List MemPlace),DataW.trod enc T_ w 0 (fun _=>true) true m 25 [a5]=some y):=by
 obtain ⟨ys,n0,_,_,hlen,I2,hf⟩:=DataW.trod_struct underlying27 h;rw [c27] at hlen;have I1:ys.length=6:=I2;obtain ⟨k0,k1,k2,k3,k4,k5,rfl⟩:=TG hlen;have f0:DataW.trod enc T_ w 0 (fun _=>true) true n0 3 (List.take (prog.cellsOf 3) (List.drop 0 [k0,k1,k2,k3,k4,k5]))=ys[0]?:=hf 0 _ I
 rw [c3,Zc (by omega)] at f0;obtain ⟨b0,e0,_,_⟩:=DataW.trod_int underlying3 f0;simp at e0;have f1:DataW.trod enc T_ w 0 (fun _=>true) true n0 3 (List.take (prog.cellsOf 3) (List.drop 1 [k0,k1,k2,k3,k4,k5]))=ys[1]?:=hf 1 _ I
 rw [c3,Zc (by omega)] at f1;obtain ⟨b1,e1,_,_⟩:=DataW.trod_int underlying3 f1;simp at e1;have f2:DataW.trod enc T_ w 0 (fun _=>true) true n0 22 (List.take (prog.cellsOf 22) (List.drop 2 [k0,k1,k2,k3,k4,k5]))=ys[2]?:=hf 2 _ I
 rw [c22,Zc (by omega)] at f2;have f3:DataW.trod enc T_ w 0 (fun _=>true) true n0 23 (List.take (prog.cellsOf 23) (List.drop 3 [k0,k1,k2,k3,k4,k5]))=ys[3]?:=hf 3 _ I
 rw [c23,Zc (by omega)] at f3;have f4:DataW.trod enc T_ w 0 (fun _=>true) true n0 24 (List.take (prog.cellsOf 24) (List.drop 4 [k0,k1,k2,k3,k4,k5]))=ys[4]?:=hf 4 _ I
 rw [c24,Zc (by omega)] at f4;have f5:DataW.trod enc T_ w 0 (fun _=>true) true n0 25 (List.take (prog.cellsOf 25) (List.drop 5 [k0,k1,k2,k3,k4,k5]))=ys[5]?:=hf 5 _ I
 rw [c25,Zc (by omega)] at f5;subst e0 e1;exact ⟨b0,b1,k2,k3,k4,k5,I,⟨_,_,by simpa using f2⟩,⟨_,_,by simpa using f3⟩,⟨_,_,by simpa using f4⟩,⟨_,_,by simpa using f5⟩⟩
theorem c29:prog.cellsOf 29=3:=by kernel_rfl
theorem Og {n:Nat} {cs:List Value} {x:DataW H×List MemPlace} (h:DataW.trod enc T_ w 0 (fun _=>true) true n 29 cs=some x):∃ (a0:Int) (a1:ByteArray) (a2:ByteArray),cs=[.int .i64 a0,.string a1,.string a2]:=by
 obtain ⟨ys,n0,_,_,hlen,I2,hf⟩:=DataW.trod_struct underlying29 h;rw [c29] at hlen;have I1:ys.length=3:=I2;obtain ⟨k0,k1,k2,rfl⟩:=ER hlen;have f0:DataW.trod enc T_ w 0 (fun _=>true) true n0 3 (List.take (prog.cellsOf 3) (List.drop 0 [k0,k1,k2]))=ys[0]?:=hf 0 _ I
 rw [c3,Zc (by omega)] at f0;obtain ⟨b0,e0,_,_⟩:=DataW.trod_int underlying3 f0;simp at e0;have f1:DataW.trod enc T_ w 0 (fun _=>true) true n0 9 (List.take (prog.cellsOf 9) (List.drop 1 [k0,k1,k2]))=ys[1]?:=hf 1 _ I
 rw [c9,Zc (by omega)] at f1;obtain ⟨b1,e1,_,_⟩:=DataW.trod_string underlying9 f1;simp at e1;have f2:DataW.trod enc T_ w 0 (fun _=>true) true n0 9 (List.take (prog.cellsOf 9) (List.drop 2 [k0,k1,k2]))=ys[2]?:=hf 2 _ I
 rw [c9,Zc (by omega)] at f2;obtain ⟨b2,e2,_,_⟩:=DataW.trod_string underlying9 f2;simp at e2;subst e0 e1 e2;exact ⟨b0,b1,b2,I⟩
theorem Iq {n:Nat} {v:Value} {x:DataW H×List MemPlace} (h:DataW.trod enc T_ w 0 (fun _=>true) true n 22 [v]=some x):∃ l,Rd w v 2 (wW l):=by
 haveI:Inhabited Sr:=⟨⟨⟨#[]⟩,0⟩⟩
 exact mQ (cells:=Sr.cells) underlying22 Vc (by decide) (fun _=>rfl) (fun _ _ _ h=>by obtain ⟨a,b,rfl⟩:=KQ h;exact ⟨⟨a,b⟩,rfl⟩) h
theorem It {n:Nat} {v:Value} {x:DataW H×List MemPlace} (h:DataW.trod enc T_ w 0 (fun _=>true) true n 23 [v]=some x):∃ l,Rd w v 3 (wq l):=by
 haveI:Inhabited De:=⟨⟨⟨#[]⟩,0,false⟩⟩
 exact mQ (cells:=De.cells) underlying23 Z5 (by decide) (fun _=>rfl) (fun _ _ _ h=>by obtain ⟨a,b,c,rfl⟩:=Of h;exact ⟨⟨a,b,c⟩,rfl⟩) h
theorem Io {n:Nat} {v:Value} {x:DataW H×List MemPlace} (h:DataW.trod enc T_ w 0 (fun _=>true) true n 24 [v]=some x):∃ l,Rd w v 3 (u9 l):=by
 haveI:Inhabited Ti:=⟨⟨⟨#[]⟩,0,0⟩⟩
 exact mQ (cells:=Ti.cells) underlying24 Vb (by decide) (fun _=>rfl) (fun _ _ _ h=>by obtain ⟨a,b,c,rfl⟩:=KP h;exact ⟨⟨a,b,c⟩,rfl⟩) h
theorem Ir {n:Nat} {v:Value} {x:DataW H×List MemPlace} (h:DataW.trod enc T_ w 0 (fun _=>true) true n 25 [v]=some x):∃ l,Rd w v 3 (ud l):=by
 haveI:Inhabited Po:=⟨⟨0,⟨#[]⟩,⟨#[]⟩⟩⟩
 exact mQ (cells:=Po.cells) underlying25 Va (by decide) (fun _=>rfl) (fun _ _ _ h=>by obtain ⟨a,b,c,rfl⟩:=KO h;exact ⟨⟨a,b,c⟩,rfl⟩) h
theorem Ip {n:Nat} {v:Value} {x:DataW H×List MemPlace} (h:DataW.trod enc T_ w 0 (fun _=>true) true n 32 [v]=some x):∃ l,Rd w v 1 (fG l):=by
 haveI:Inhabited ByteArray:=⟨⟨#[]⟩⟩
 exact mQ (cells:=(fun s:ByteArray=>[Value.string s])) underlying32 c9 (by decide) (fun _=>rfl) (fun _ _ _ h=>by obtain ⟨a,rfl,_⟩:=DataW.trod_string underlying9 h;exact ⟨a,rfl⟩) h
theorem BC {n:Nat} {cs:List Value} {x:DataW H×List MemPlace} (h:DataW.trod enc T_ w 0 (fun _=>true) true n 27 cs=some x):∃ (r:Ro) (s d t p:Value),cs=[.int .i64 r.lv,.int .i64 r.ma,s,d,t,p]/\RR w r s d t p:=by
 obtain ⟨a,b,s,d,t,p,rfl,⟨_,_,h1⟩,⟨_,_,h2⟩,⟨_,_,h3⟩,⟨_,_,h4⟩⟩:=Oh h;obtain ⟨l1,r1⟩:=Iq h1;obtain ⟨l2,r2⟩:=It h2;obtain ⟨l3,r3⟩:=Io h3;obtain ⟨l4,r4⟩:=Ir h4;exact ⟨⟨a,b,l1,l2,l3,l4⟩,s,d,t,p,I,r1,r2,r3,r4⟩
end
end Go.Proofs.A1
namespace Go.Proofs.YteonnodafmegaaaGreatDoor
open Go Go.SL Go.Proofs.A1 Go.ChangeShapes Go.WideShapes Go.ChangeAt Go.RowKit Go.Joins
section
variable {H:Type} {enc:TypeId×Value->H} {P:Program}
theorem xr {f:Func} {s:ChangeSpec} {apart fresh handsOn again:Bool} {W W':World} {args:Array Value} {v:Value} {ds gs:List (DataW H)} {before pa pv:List MemPlace}
  (hW:DataW.Whole enc P f.params.toList s.vars apart W args.toList ds gs before)
  (T5:∀ (b:Nat) (sp:Nat->Bool) (hd:Bool),DataW.TrodAll enc P W' b sp hd f.resultTypes.toList (v.resultList f.resultTypes.size) (s.fn H (ds++gs)).results [])
  (E5:∀ sp:Nat->Bool,(∀ p∈before,sp p.block=true)->DataW.TrodAll enc P W' 0 sp true f.params.toList args.toList (s.fn H (ds++gs)).args pa)
  (O1:∀ sp:Nat->Bool,(∀ p∈before,sp p.block=true)->DataW.TrodVars enc P W' sp s.vars (s.fn H (ds++gs)).vars pv)
  (hps:before=pa++pv) (hb:Below W.heap.size W W')
  (dU:∀ (j:Nat) (t:TypeId) (r:Value),f.resultTypes[j]? = some t->(v.resultList f.resultTypes.size)[j]? = some r->Value.okWide P W' .any 0 t r) :
  s.post enc P f apart fresh handsOn again W args v W':=by
 have aL:∀ p∈before,p.block<W.heap.size:=fun p hp=>hW.lt p hp
 have hold:∀ p∈before,(fun b=>decide (b<W.heap.size)) p.block=true:=fun p hp=>by simpa using aL p hp
 refine ⟨ds,gs,before,[],pa,pv,hW,T5 _ _ _,E5 _ hold,O1 _ hold,World.keptBut_mono (fun p hp=>⟨hp,?_⟩) (hb.frame (·∈before)),fun _=>?_⟩
 ·rw [hps,List.mem_append] at hp;exact Or.inr hp
 ·obtain ⟨_,_,_,_,_,hz,hn⟩:=hW;refine ⟨dU,_,_,([]++pa)++pv,⟨[]++pa,pv,trodAll_append (E5 _ (fun _ _=>rfl)) (T5 _ _ _),O1 _ (fun _ _=>rfl),I,?_,?_⟩,?_⟩
  ·intro b off hp;have my:MemPlace.cell b off∈before:=by rw [hps];simpa using hp
   rw [hb.frozen (aL _ my)];exact hz b off my
  ·intro ha;have:=hn ha;rw [hps] at this;simpa using this
  ·intro p hp _;rw [hps];simpa using hp
end
end Go.Proofs.YteonnodafmegaaaGreatDoor
namespace Go.Proofs.A1
open Go Go.SL
open Tryz
open Tryz renaming prog->T_
theorem r7 {r:Ro} {s d t p:Value} (o:ByteArray) {w:World} (h:RR w r s d t p):aj T_ 130 [RA r s d t p,.string o] w (.int .i64 (bd (ct r) o)):=by
 obtain ⟨h1,h2,h3,h4⟩:=h.one;have hs:=h.sr;obtain ⟨a,cp,b,o',rfl,c8,bV,ha,hc⟩:=hs;rw [cu] at *;unfold maxLen at bV;unfold RA;refine ah func130 I I ?_;refine Jr<|Jy I I fun _ _=>Ja I<|Jn<|Jq<|Jr<|Ja I<|Jn<|J0 ?_;rename_i b1 tR;refine aY (ι:=Nat) (fun k=>k<=r.sr.length/\∀ j (hj:j<(ct r).length),j<k->(ct r)[j]≠o) (fun k=>[(5,.int .i64 (k:Nat)),(2,.pointer (some ⟨b1,0,none⟩)),(1,.string o)]) (fun _=>[JQ b1 r (.slice a r.sr.length cp) d t p]) (fun k=>r.sr.length-k) ?_ ?_
 ·apply aK (0:Nat) ⟨Zi _,fun j _ hj=>absurd hj (Nat.not_lt_zero _)⟩
  case hs1=>exact cj
  case ht=>(try simp only [Ze,Zf,Za]);exact .cons .here .nil
 rintro k ⟨hk,hf⟩;have rT:(ct r).length=r.sr.length:=by unfold ct;rw [Zd]
 by_cases aL:k<r.sr.length
 ·have cM:=ha (gL aL);have aF:=(hc k _ (fk aL)).2;have hx:(ct r)[k]'(by omega)=(r.sr[k]).nm:=by unfold ct;rw [List.getElem_map]
  have c0:w.cell? ⟨b,o'+k*2,none⟩=some (.string (r.sr[k]).nm):=aF 0 _ I;generalize (r.sr[k]).nm=x at hx c0
  (refine Jq<|Jr<|Jv I<|bK I I ae ?_;refine JL I .here I<|JI I<|JA I<|Jn<|Jd I fun ar=>Jk<|Jq<|J0<|Jr<|bK I I ae ?_;refine JL I .here I<|Jv I<|ab (gj cM ar) I ?_;refine bK I I ae ?_;refine ab (ag (.of I) (At.base c0 I)) I ?_;refine Jv I<|ab (eh (.of I) (.of I)) I ?_;refine Jn<|gl I (fun ar=>?_) fun ar=>?_;refine Jr<|Jv I<|Ja I<|Jn<|Je<|Jm<|Jh<|Jh<|Jm<|Jh<|JT ?_;rotate_left;refine Jw<|Jj<|Jt<|Jg<|Jv I<|JB I (by omega)<|Ja I<|Jn ?_;rotate_right)
  ·have tH:x=o:=ar;rw [qV (i:=k) (by omega) (hx.trans tH) (fun j hj=>hf j (by omega) hj)]
  ·have tH:¬ x=o:=ar;apply aJ (k+1) ⟨(show k+1<=r.sr.length from aL),fun j hj VX=>by
    by_cases e:j=k
    ·subst e;rw [hx];exact tH
    ·exact hf j hj (by omega)⟩ (show r.sr.length-(k+1)<r.sr.length-k by omega)
   case hs1=>exact cj
   case ht=>(try simp only [Ze,Zf,Za]);exact .cons .here .nil
 ·obtain rfl:k=r.sr.length:=by omega
  rw [Ao fun j hj=>hf j hj (by omega)]
  (refine Jq<|Jr<|Jv I<|bK I I ae ?_;refine JL I .here I<|JI I<|JA I<|Jn<|Jc I fun ar=>Jp<|Jl<|Jo<|Jt<|Jr<|Ja I<|Jn<|Je<|JT ?_)
  rfl
theorem uU {r:Ro} {s d t p:Value} (o:ByteArray) {w:World} (h:RR w r s d t p):aj T_ 56 [RA r s d t p,.string o] w (.int .i64 (bd (cz r) o)):=by
 obtain ⟨h1,h2,h3,h4⟩:=h.one;have hs:=h.de;obtain ⟨a,cp,b,o',rfl,c8,bV,ha,hc⟩:=hs;rw [bZ] at *;unfold maxLen at bV;unfold RA;refine ah func56 I I ?_;refine Jr<|Jy I I fun _ _=>Ja I<|Jn<|Jq<|Jr<|Ja I<|Jn<|J0 ?_;rename_i b1 tR;refine aY (ι:=Nat) (fun k=>k<=r.de.length/\∀ j (hj:j<(cz r).length),j<k->(cz r)[j]≠o) (fun k=>[(5,.int .i64 (k:Nat)),(2,.pointer (some ⟨b1,0,none⟩)),(1,.string o)]) (fun _=>[JQ b1 r s (.slice a r.de.length cp) t p]) (fun k=>r.de.length-k) ?_ ?_
 ·apply aK (0:Nat) ⟨Zi _,fun j _ hj=>absurd hj (Nat.not_lt_zero _)⟩
  case hs1=>exact cj
  case ht=>(try simp only [Ze,Zf,Za]);exact .cons .here .nil
 rintro k ⟨hk,hf⟩;have rT:(cz r).length=r.de.length:=by unfold cz;rw [Zd]
 by_cases aL:k<r.de.length
 ·have cM:=ha (gS aL);have aF:=(hc k _ (fu aL)).2;have hx:(cz r)[k]'(by omega)=(r.de[k]).nm:=by unfold cz;rw [List.getElem_map]
  have c0:w.cell? ⟨b,o'+k*3,none⟩=some (.string (r.de[k]).nm):=aF 0 _ I;generalize (r.de[k]).nm=x at hx c0
  (refine Jq<|Jr<|Jv I<|bK I I ae ?_;refine JL I .here I<|JI I<|JA I<|Jn<|Jd I fun ar=>Jk<|Jq<|J0<|Jr<|bK I I ae ?_;refine JL I .here I<|Jv I<|ab (gj cM ar) I ?_;refine bK I I ae ?_;refine ab (ag (.of I) (At.base c0 I)) I ?_;refine Jv I<|ab (eh (.of I) (.of I)) I ?_;refine Jn<|gl I (fun ar=>?_) fun ar=>?_;refine Jr<|Jv I<|Ja I<|Jn<|Je<|Jm<|Jh<|Jh<|Jm<|Jh<|JT ?_;rotate_left;refine Jw<|Jj<|Jt<|Jg<|Jv I<|JB I (by omega)<|Ja I<|Jn ?_;rotate_right)
  ·have tH:x=o:=ar;rw [qV (i:=k) (by omega) (hx.trans tH) (fun j hj=>hf j (by omega) hj)]
  ·have tH:¬ x=o:=ar;apply aJ (k+1) ⟨(show k+1<=r.de.length from aL),fun j hj VX=>by
    by_cases e:j=k
    ·subst e;rw [hx];exact tH
    ·exact hf j hj (by omega)⟩ (show r.de.length-(k+1)<r.de.length-k by omega)
   case hs1=>exact cj
   case ht=>(try simp only [Ze,Zf,Za]);exact .cons .here .nil
 ·obtain rfl:k=r.de.length:=by omega
  rw [Ao fun j hj=>hf j hj (by omega)]
  (refine Jq<|Jr<|Jv I<|bK I I ae ?_;refine JL I .here I<|JI I<|JA I<|Jn<|Jc I fun ar=>Jp<|Jl<|Jo<|Jt<|Jr<|Ja I<|Jn<|Je<|JT ?_)
  rfl
theorem nI {r:Ro} {s d t p:Value} (o:ByteArray) {w:World} (h:RR w r s d t p):aj T_ 60 [RA r s d t p,.string o] w (.int .i64 (bd (cd r) o)):=by
 obtain ⟨h1,h2,h3,h4⟩:=h.one;have hs:=h.ti;obtain ⟨a,cp,b,o',rfl,c8,bV,ha,hc⟩:=hs;rw [bO] at *;unfold maxLen at bV;unfold RA;refine ah func60 I I ?_;refine Jr<|Jy I I fun _ _=>Ja I<|Jn<|Jq<|Jr<|Ja I<|Jn<|J0 ?_;rename_i b1 tR;refine aY (ι:=Nat) (fun k=>k<=r.ti.length/\∀ j (hj:j<(cd r).length),j<k->(cd r)[j]≠o) (fun k=>[(5,.int .i64 (k:Nat)),(2,.pointer (some ⟨b1,0,none⟩)),(1,.string o)]) (fun _=>[JQ b1 r s d (.slice a r.ti.length cp) p]) (fun k=>r.ti.length-k) ?_ ?_
 ·apply aK (0:Nat) ⟨Zi _,fun j _ hj=>absurd hj (Nat.not_lt_zero _)⟩
  case hs1=>exact cj
  case ht=>(try simp only [Ze,Zf,Za]);exact .cons .here .nil
 rintro k ⟨hk,hf⟩;have rT:(cd r).length=r.ti.length:=by unfold cd;rw [Zd]
 by_cases aL:k<r.ti.length
 ·have cM:=ha (eO aL);have aF:=(hc k _ (dY aL)).2;have hx:(cd r)[k]'(by omega)=(r.ti[k]).nm:=by unfold cd;rw [List.getElem_map]
  have c0:w.cell? ⟨b,o'+k*3,none⟩=some (.string (r.ti[k]).nm):=aF 0 _ I;generalize (r.ti[k]).nm=x at hx c0
  (refine Jq<|Jr<|Jv I<|bK I I ae ?_;refine JL I .here I<|JI I<|JA I<|Jn<|Jd I fun ar=>Jk<|Jq<|J0<|Jr<|bK I I ae ?_;refine JL I .here I<|Jv I<|ab (gj cM ar) I ?_;refine bK I I ae ?_;refine ab (ag (.of I) (At.base c0 I)) I ?_;refine Jv I<|ab (eh (.of I) (.of I)) I ?_;refine Jn<|gl I (fun ar=>?_) fun ar=>?_;refine Jr<|Jv I<|Ja I<|Jn<|Je<|Jm<|Jh<|Jh<|Jm<|Jh<|JT ?_;rotate_left;refine Jw<|Jj<|Jt<|Jg<|Jv I<|JB I (by omega)<|Ja I<|Jn ?_;rotate_right)
  ·have tH:x=o:=ar;rw [qV (i:=k) (by omega) (hx.trans tH) (fun j hj=>hf j (by omega) hj)]
  ·have tH:¬ x=o:=ar;apply aJ (k+1) ⟨(show k+1<=r.ti.length from aL),fun j hj VX=>by
    by_cases e:j=k
    ·subst e;rw [hx];exact tH
    ·exact hf j hj (by omega)⟩ (show r.ti.length-(k+1)<r.ti.length-k by omega)
   case hs1=>exact cj
   case ht=>(try simp only [Ze,Zf,Za]);exact .cons .here .nil
 ·obtain rfl:k=r.ti.length:=by omega
  rw [Ao fun j hj=>hf j hj (by omega)]
  (refine Jq<|Jr<|Jv I<|bK I I ae ?_;refine JL I .here I<|JI I<|JA I<|Jn<|Jc I fun ar=>Jp<|Jl<|Jo<|Jt<|Jr<|Ja I<|Jn<|Je<|JT ?_)
  rfl
theorem rO {r:Ro} {s d t p:Value} (v:Int) (o:ByteArray) {w:World} (h:RR w r s d t p):aj T_ 133 [RA r s d t p,.int .i64 v,.string o] w (.string ((ep r.po v o).getD ⟨#[]⟩)):=by
 obtain ⟨h1,h2,h3,h4⟩:=h.one;have hs:=h.po;obtain ⟨a,cp,b,o',rfl,c8,bV,ha,hc⟩:=hs;rw [cT] at *;unfold maxLen at bV;unfold RA;refine ah func133 I I ?_;refine Jr<|Jy I I fun _ _=>Ja I<|Jn<|Jq<|Jr<|Ja I<|Jn<|J0 ?_;rename_i b1 tR;refine aY (ι:=Nat) (fun k=>k<=r.po.length/\ep r.po v o=((r.po.drop k).find? (D4 v o)).map Po.ip) (fun k=>[(7,.int .i64 (k:Nat)),(3,.pointer (some ⟨b1,0,none⟩)),(1,.int .i64 v),(2,.string o)]) (fun _=>[JQ b1 r s d t (.slice a r.po.length cp)]) (fun k=>r.po.length-k) ?_ ?_
 ·apply aK (0:Nat) ⟨Zi _,I⟩
  case hs1=>exact cj
  case ht=>(try simp only [Ze,Zf,Za]);exact .cons .here .nil
 rintro k ⟨hk,hf⟩;by_cases aL:k<r.po.length
 ·have cM:=ha (kD aL);have aF:=(hc k _ (iN aL)).2;rw [List.drop_eq_getElem_cons aL] at hf;have c0:w.cell? ⟨b,o'+k*3,none⟩=some (.int .i64 (r.po[k]).lv):=aF 0 _ I;have c1:w.cell? ⟨b,o'+k*3+1,none⟩=some (.string (r.po[k]).ou):=aF 1 _ I;have c2:w.cell? ⟨b,o'+k*3+2,none⟩=some (.string (r.po[k]).ip):=aF 2 _ I;generalize r.po[k]=x at hf c0 c1 c2
  (refine Jq<|Jr<|Jv I<|bK I I ae ?_;refine JL I .here I<|JI I<|JA I<|Jn<|Jd I fun ar=>Jk<|Jq<|J0<|Jr<|bK I I ae ?_;refine JL I .here I<|Jv I<|ab (gj cM ar) I ?_;refine bK I I ae ?_;refine ab (ag (.of I) (At.base c0 I)) I ?_;refine Jv I<|JC I<|Jv I<|aC I I inferInstance (fun hg br=>(ao (.of I) ae)) I ?_;refine aC I I inferInstance (fun hg br=>(ag (.bL hg I) (At.lit .here I))) I ?_;refine fM I I I I ?_;refine aC I I inferInstance (fun hg br=>(az (.bL hg I) (.bL hg I) cM (by omega) ar ba)) I ?_;refine aC I I inferInstance (fun hg br=>(ao (.bL hg I) ae)) I ?_;refine aC I I inferInstance (fun hg br=>(ag (.bL hg I) (At.base c1 I))) I ?_;refine fM I I I I ?_;refine aC I I inferInstance (fun hg br=>(eh (.bL hg I) (.bL hg I))) I ?_;refine ab (bH (.of I) I) I ?_;refine Jn<|oz I (fun ar=>?_) fun ar=>?_;refine Jr<|bK I I ae ?_;refine JL I .here I<|Jv I<|ab (az (.of I) (.of I) cM (by omega) (by assumption) ba) I ?_;refine bK I I ae ?_;refine ab (ag (.of I) (At.base c2 I)) I ?_;refine Ja I<|Jn<|Je<|Jm<|Jh<|Jh<|Jm<|Jh<|JT ?_;rotate_left;refine Jw<|Jj<|Jt<|Jg<|Jv I<|JB I (by omega)<|Ja I<|Jn ?_;rotate_right)
  ·rw [hf,List.find?_cons_of_pos (by unfold D4;simp only [Bool.and_eq_true,decide_eq_true_eq];exact ar)];rfl
  ·apply aJ (k+1) ⟨(show k+1<=r.po.length from aL),by rw [hf,List.find?_cons_of_neg (by unfold D4;simp only [Bool.and_eq_true,decide_eq_true_eq];exact fun q=>ar.elim (fun z=>z q.1) (fun z=>z q.2))]⟩ (show r.po.length-(k+1)<r.po.length-k by omega)
   case hs1=>exact cj
   case ht=>(try simp only [Ze,Zf,Za]);exact .cons .here .nil
 ·obtain rfl:k=r.po.length:=by omega
  rw [List.drop_length] at hf;rw [hf]
  (refine Jq<|Jr<|Jv I<|bK I I ae ?_;refine JL I .here I<|JI I<|JA I<|Jn<|Jc I fun ar=>Jp<|Jl<|Jo<|Jt<|Jr<|Ja I<|Jn<|Je<|JT ?_)
  rfl
theorem P1 {r:Ro} {s d t p:Value} (v:Int) (o:ByteArray) {w:World} (h:RR w r s d t p):aj T_ 233 [RA r s d t p,.int .i64 v,.string o] w (.bool (nZ r.po v o)):=by
 obtain ⟨h1,h2,h3,h4⟩:=h.one;have hs:=h.po;obtain ⟨a,cp,b,o',rfl,c8,bV,ha,hc⟩:=hs;rw [cT] at *;unfold maxLen at bV;unfold RA;refine ah func233 I I ?_;refine Jr<|Jy I I fun _ _=>Ja I<|Jn<|Jq<|Jr<|Ja I<|Jn<|J0 ?_;rename_i b1 tR;refine aY (ι:=Nat) (fun k=>k<=r.po.length/\nZ r.po v o=(r.po.drop k).any (Af v o)) (fun k=>[(7,.int .i64 (k:Nat)),(3,.pointer (some ⟨b1,0,none⟩)),(1,.int .i64 v),(2,.string o)]) (fun _=>[JQ b1 r s d t (.slice a r.po.length cp)]) (fun k=>r.po.length-k) ?_ ?_
 ·apply aK (0:Nat) ⟨Zi _,I⟩
  case hs1=>exact cj
  case ht=>(try simp only [Ze,Zf,Za]);exact .cons .here .nil
 rintro k ⟨hk,hf⟩;by_cases aL:k<r.po.length
 ·have cM:=ha (kD aL);have aF:=(hc k _ (iN aL)).2;rw [List.drop_eq_getElem_cons aL] at hf;have c0:w.cell? ⟨b,o'+k*3,none⟩=some (.int .i64 (r.po[k]).lv):=aF 0 _ I;have c1:w.cell? ⟨b,o'+k*3+1,none⟩=some (.string (r.po[k]).ou):=aF 1 _ I;have c2:w.cell? ⟨b,o'+k*3+2,none⟩=some (.string (r.po[k]).ip):=aF 2 _ I;generalize r.po[k]=x at hf c0 c1 c2
  (refine Jq<|Jr<|Jv I<|bK I I ae ?_;refine JL I .here I<|JI I<|JA I<|Jn<|Jd I fun ar=>Jk<|Jq<|J0<|Jr<|bK I I ae ?_;refine JL I .here I<|Jv I<|ab (gj cM ar) I ?_;refine bK I I ae ?_;refine ab (ag (.of I) (At.base c0 I)) I ?_;refine Jv I<|JC I<|Jv I<|aC I I inferInstance (fun hg br=>(ao (.of I) ae)) I ?_;refine aC I I inferInstance (fun hg br=>(ag (.bL hg I) (At.lit .here I))) I ?_;refine fM I I I I ?_;refine aC I I inferInstance (fun hg br=>(az (.bL hg I) (.bL hg I) cM (by omega) ar ba)) I ?_;refine aC I I inferInstance (fun hg br=>(ao (.bL hg I) ae)) I ?_;refine aC I I inferInstance (fun hg br=>(ag (.bL hg I) (At.base c2 I))) I ?_;refine fM I I I I ?_;refine aC I I inferInstance (fun hg br=>(eh (.bL hg I) (.bL hg I))) I ?_;refine ab (bH (.of I) I) I ?_;refine Jn<|oz I (fun ar=>?_) fun ar=>?_;refine Jr<|Ja I<|Jn<|Je<|Jm<|Jh<|Jh<|Jm<|Jh<|JT ?_;rotate_left;refine Jw<|Jj<|Jt<|Jg<|Jv I<|JB I (by omega)<|Ja I<|Jn ?_;rotate_right)
  ·rw [hf,List.any_cons,show Af v o x=true by unfold Af;simp only [Bool.and_eq_true,decide_eq_true_eq];exact ar];rfl
  ·apply aJ (k+1) ⟨(show k+1<=r.po.length from aL),by rw [hf,List.any_cons,show Af v o x=false by unfold Af;rw [<- Bool.not_eq_true];simp only [Bool.and_eq_true,decide_eq_true_eq];exact fun q=>ar.elim (fun z=>z q.1) (fun z=>z q.2),Bool.false_or]⟩ (show r.po.length-(k+1)<r.po.length-k by omega)
   case hs1=>exact cj
   case ht=>(try simp only [Ze,Zf,Za]);exact .cons .here .nil
 ·obtain rfl:k=r.po.length:=by omega
  rw [List.drop_length] at hf;rw [hf]
  (refine Jq<|Jr<|Jv I<|bK I I ae ?_;refine JL I .here I<|JI I<|JA I<|Jn<|Jc I fun ar=>Jp<|Jl<|Jo<|Jt<|Jr<|Ja I<|Jn<|Je<|JT ?_)
  rfl
theorem r5 {l:List ByteArray} {s:ByteArray} (h:0<=bd l s):∃ k:Nat,bd l s=k/\k<l.length:=⟨(bd l s).toNat,by omega,(eD h).1⟩
theorem QA {r:Ro} {s:ByteArray} {k:Nat} (e:bd (cz r) s=k) (hk:k<r.de.length):j9 r s=(r.de[k]).mx:=by
 unfold j9;rw [if_pos (by omega),e,Int.toNat_natCast,List.getD_eq_getElem?_getD,Zc hk];rfl
theorem Qy {r:Ro} {s:ByteArray} {k:Nat} (h:¬ 0<=bd (cz r) s) (e:bd (cd r) s=k) (hk:k<r.ti.length):j9 r s=(r.ti[k]).fr:=by
 unfold j9;rw [if_neg h,if_pos (by omega),e,Int.toNat_natCast,List.getD_eq_getElem?_getD,Zc hk];rfl
theorem Qz {r:Ro} {s:ByteArray} (h:¬ 0<=bd (cz r) s) (h2:¬ 0<=bd (cd r) s):j9 r s = -1:=by
 unfold j9;rw [if_neg h,if_neg h2]
theorem QQ {r:Ro} {s:ByteArray} {k:Nat} (e:bd (ct r) s=k) (hk:k<r.sr.length):jR r s=(r.sr[k]).mx:=by
 unfold jR;rw [if_pos (by omega),e,Int.toNat_natCast,List.getD_eq_getElem?_getD,Zc hk];rfl
theorem QP {r:Ro} {s:ByteArray} {k:Nat} (h:¬ 0<=bd (ct r) s) (e:bd (cd r) s=k) (hk:k<r.ti.length):jR r s=(r.ti[k]).to:=by
 unfold jR;rw [if_neg h,if_pos (by omega),e,Int.toNat_natCast,List.getD_eq_getElem?_getD,Zc hk];rfl
theorem QR {r:Ro} {s:ByteArray} (h:¬ 0<=bd (ct r) s) (h2:¬ 0<=bd (cd r) s):jR r s = -1:=by
 unfold jR;rw [if_neg h,if_neg h2]
theorem Ik {r:Ro} {s d t p:Value} (o:ByteArray) {w:World} (h:RR w r s d t p):aj T_ 232 [RA r s d t p,.string o] w (.int .i64 (j9 r o)):=by
 obtain ⟨h1,h2,h3,h4⟩:=h.one;have hA:∀ w',aD [] w w'->aj T_ 56 [.agg #[.int .i64 r.lv,.int .i64 r.ma,s,d,t,p],.string o] w' (.int .i64 (bd (cz r) o)):=fun w' hk=>uU o (h.keeps hk)
 have hB:∀ w',aD [] w w'->aj T_ 60 [.agg #[.int .i64 r.lv,.int .i64 r.ma,s,d,t,p],.string o] w' (.int .i64 (bd (cd r) o)):=fun w' hk=>nI o (h.keeps hk)
 have n1:(cz r).length=r.de.length:=by unfold cz;rw [Zd]
 have n2:(cd r).length=r.ti.length:=by unfold cd;rw [Zd]
 have hs:=h.de;obtain ⟨a,cp,b,o',rfl,c8,bV,ha,hc⟩:=hs;rw [bZ] at *;have ht:=h.ti;obtain ⟨a2,l8,b2,o2,rfl,jK,eE,iT,jL⟩:=ht;rw [bO] at *;unfold maxLen at bV eE;by_cases g1:0<=bd (cz r) o
 ·obtain ⟨k,e,hk⟩:=r5 g1;rw [n1] at hk;rw [QA e hk];rw [e] at hA;have cM:=ha (gS hk);have aF:=(hc k _ (fu hk)).2;have c0:w.cell? ⟨b,o'+k*3+1,none⟩=some (.int .i64 (r.de[k]).mx):=aF 1 _ I;unfold RA;refine ah func232 I I ?_
  (refine Jr<|Jy I I fun _ _=>Ja I<|Jn<|Jq<|Jr<|ab (cr .here) I ?_;refine Jv I<|ai aX I (fun w' aq=>(hA w' (Mem.keeps aq))) ?_;refine Ja I<|Ji<|Jv I<|JG I<|Jn<|Jd I fun ar=>Jr<|bK I I ae ?_;refine JL I .here I<|Jv I<|ab (az (.of I) (.of I) cM ar (by omega) ba) I ?_;refine bK I I ae ?_;refine ab (ag (.of I) (At.base c0 I)) I ?_;refine Ja I<|Jn<|Ju<|JT ?_)
  rfl
 by_cases g2:0<=bd (cd r) o
 ·obtain ⟨k,e,hk⟩:=r5 g2;rw [n2] at hk;rw [Qy g1 e hk];rw [e] at hB;have cM:=iT (eO hk);have aF:=(jL k _ (dY hk)).2;have c0:w.cell? ⟨b2,o2+k*3+1,none⟩=some (.int .i64 (r.ti[k]).fr):=aF 1 _ I;unfold RA;refine ah func232 I I ?_
  (refine Jr<|Jy I I fun _ _=>Ja I<|Jn<|Jq<|Jr<|ab (cr .here) I ?_;refine Jv I<|ai aX I (fun w' aq=>(hA w' (Mem.keeps aq))) ?_;refine Ja I<|Ji<|Jv I<|JG I<|Jn<|Jc I fun ar=>Jk<|Jq<|Jr<|ab (cr .here) I ?_;refine Jv I<|ai aX I (fun w' aq=>(hB w' (Mem.keeps aq))) ?_;refine Ja I<|Ji<|Jv I<|JG I<|Jn<|Jd I fun ar=>Jr<|bK I I ae ?_;refine JL I .here I<|Jv I<|ab (az (.of I) (.of I) cM ar (by omega) ba) I ?_;refine bK I I ae ?_;refine ab (ag (.of I) (At.base c0 I)) I ?_;refine Ja I<|Jn<|Ju<|JT ?_)
  rfl
 rw [Qz g1 g2];unfold RA;refine ah func232 I I ?_
 (refine Jr<|Jy I I fun _ _=>Ja I<|Jn<|Jq<|Jr<|ab (cr .here) I ?_;refine Jv I<|ai aX I (fun w' aq=>(hA w' (Mem.keeps aq))) ?_;refine Ja I<|Ji<|Jv I<|JG I<|Jn<|Jc I fun ar=>Jk<|Jq<|Jr<|ab (cr .here) I ?_;refine Jv I<|ai aX I (fun w' aq=>(hB w' (Mem.keeps aq))) ?_;refine Ja I<|Ji<|Jv I<|JG I<|Jn<|Jc I fun ar=>Jk<|Jr<|Ja I<|Jn<|Je<|JT ?_)
 rfl
theorem Nf {r:Ro} {s d t p:Value} (o:ByteArray) {w:World} (h:RR w r s d t p):aj T_ 231 [RA r s d t p,.string o] w (.int .i64 (jR r o)):=by
 obtain ⟨h1,h2,h3,h4⟩:=h.one;have hA:∀ w',aD [] w w'->aj T_ 130 [.agg #[.int .i64 r.lv,.int .i64 r.ma,s,d,t,p],.string o] w' (.int .i64 (bd (ct r) o)):=fun w' hk=>r7 o (h.keeps hk)
 have hB:∀ w',aD [] w w'->aj T_ 60 [.agg #[.int .i64 r.lv,.int .i64 r.ma,s,d,t,p],.string o] w' (.int .i64 (bd (cd r) o)):=fun w' hk=>nI o (h.keeps hk)
 have n1:(ct r).length=r.sr.length:=by unfold ct;rw [Zd]
 have n2:(cd r).length=r.ti.length:=by unfold cd;rw [Zd]
 have hs:=h.sr;obtain ⟨a,cp,b,o',rfl,c8,bV,ha,hc⟩:=hs;rw [cu] at *;have ht:=h.ti;obtain ⟨a2,l8,b2,o2,rfl,jK,eE,iT,jL⟩:=ht;rw [bO] at *;unfold maxLen at bV eE;by_cases g1:0<=bd (ct r) o
 ·obtain ⟨k,e,hk⟩:=r5 g1;rw [n1] at hk;rw [QQ e hk];rw [e] at hA;have cM:=ha (gL hk);have aF:=(hc k _ (fk hk)).2;have c0:w.cell? ⟨b,o'+k*2+1,none⟩=some (.int .i64 (r.sr[k]).mx):=aF 1 _ I;unfold RA;refine ah func231 I I ?_
  (refine Jr<|Jy I I fun _ _=>Ja I<|Jn<|Jq<|Jr<|ab (cr .here) I ?_;refine Jv I<|ai aX I (fun w' aq=>(hA w' (Mem.keeps aq))) ?_;refine Ja I<|Ji<|Jv I<|JG I<|Jn<|Jd I fun ar=>Jr<|bK I I ae ?_;refine JL I .here I<|Jv I<|ab (az (.of I) (.of I) cM ar (by omega) ba) I ?_;refine bK I I ae ?_;refine ab (ag (.of I) (At.base c0 I)) I ?_;refine Ja I<|Jn<|Ju<|JT ?_)
  rfl
 by_cases g2:0<=bd (cd r) o
 ·obtain ⟨k,e,hk⟩:=r5 g2;rw [n2] at hk;rw [QP g1 e hk];rw [e] at hB;have cM:=iT (eO hk);have aF:=(jL k _ (dY hk)).2;have c0:w.cell? ⟨b2,o2+k*3+2,none⟩=some (.int .i64 (r.ti[k]).to):=aF 2 _ I;unfold RA;refine ah func231 I I ?_
  (refine Jr<|Jy I I fun _ _=>Ja I<|Jn<|Jq<|Jr<|ab (cr .here) I ?_;refine Jv I<|ai aX I (fun w' aq=>(hA w' (Mem.keeps aq))) ?_;refine Ja I<|Ji<|Jv I<|JG I<|Jn<|Jc I fun ar=>Jk<|Jq<|Jr<|ab (cr .here) I ?_;refine Jv I<|ai aX I (fun w' aq=>(hB w' (Mem.keeps aq))) ?_;refine Ja I<|Ji<|Jv I<|JG I<|Jn<|Jd I fun ar=>Jr<|bK I I ae ?_;refine JL I .here I<|Jv I<|ab (az (.of I) (.of I) cM ar (by omega) ba) I ?_;refine bK I I ae ?_;refine ab (ag (.of I) (At.base c0 I)) I ?_;refine Ja I<|Jn<|Ju<|JT ?_)
  rfl
 rw [QR g1 g2];unfold RA;refine ah func231 I I ?_
 (refine Jr<|Jy I I fun _ _=>Ja I<|Jn<|Jq<|Jr<|ab (cr .here) I ?_;refine Jv I<|ai aX I (fun w' aq=>(hA w' (Mem.keeps aq))) ?_;refine Ja I<|Ji<|Jv I<|JG I<|Jn<|Jc I fun ar=>Jk<|Jq<|Jr<|ab (cr .here) I ?_;refine Jv I<|ai aX I (fun w' aq=>(hB w' (Mem.keeps aq))) ?_;refine Ja I<|Ji<|Jv I<|JG I<|Jn<|Jc I fun ar=>Jk<|Jr<|Ja I<|Jn<|Je<|JT ?_)
 rfl
theorem MR {r:Ro} {s d t p:Value} (o:ByteArray) {w:World} (h:RR w r s d t p) (hf:nP r):aj T_ 230 [RA r s d t p,.string o] w (.int .i64 (eo r o)):=by
 obtain ⟨h1,h2,h3,h4⟩:=h.one;have hA:∀ w',aD [] w w'->aj T_ 56 [.agg #[.int .i64 r.lv,.int .i64 r.ma,s,d,t,p],.string o] w' (.int .i64 (bd (cz r) o)):=fun w' hk=>uU o (h.keeps hk)
 have hB:∀ w',aD [] w w'->aj T_ 60 [.agg #[.int .i64 r.lv,.int .i64 r.ma,s,d,t,p],.string o] w' (.int .i64 (bd (cd r) o)):=fun w' hk=>nI o (h.keeps hk)
 have n2:(cd r).length=r.ti.length:=by unfold cd;rw [Zd]
 have hs:=h.de;obtain ⟨a,cp,b,o',rfl,c8,bV,ha,hc⟩:=hs;rw [bZ] at *;obtain ⟨f1,f2,f3,f4⟩:=hf;have hq:0<=bd (cd r) o->bd (cd r) o<=1000000:=fun g=>by
  obtain ⟨k,e,hk⟩:=r5 g;omega
 unfold RA;refine ah func230 I I ?_;unfold eo;generalize bd (cz r) o=x at hA ⊢;generalize bd (cd r) o=y at hB hq ⊢
 (refine Jr<|Jy I I fun _ _=>Ja I<|Jn<|Jq<|Jr<|ab (cr .here) I ?_;refine Jv I<|ai aX I (fun w' aq=>(hA w' (Mem.keeps aq))) ?_;refine Ja I<|Ji<|Jv I<|JG I<|Jn<|gl I (fun ar=>?_) fun ar=>?_;refine Jr<|Jv I<|Ja I<|Jn<|Ju<|JT ?_;rotate_left;refine Jk<|Jq<|Jr<|ab (cr .here) I ?_;refine Jv I<|ai aX I (fun w' aq=>(hB w' (Mem.keeps aq))) ?_;refine Ja I<|Ji<|Jv I<|JG I<|Jn<|gl I (fun ar=>?_) fun ar=>?_;refine Jr<|bK I I ae ?_;refine JL I .here I<|JI I<|Jv I<|JB I (by omega)<|Ja I<|Jn<|Ju<|JT ?_;rotate_left;refine Jk<|Jr<|Ja I<|Jn<|Je<|JT ?_;rotate_right;rotate_right)
 all_goals first | (rw [if_pos ar];done) | (rw [if_neg ‹¬ 0<=x›,if_pos ar];done) | (rw [if_neg ‹¬ 0<=x›,if_neg ar];done)
theorem Ay {r:Ro} {s d t p:Value} (v:Int) {w:World} (h:RR w r s d t p):aj T_ 27 [RA r s d t p,.int .i64 v] w (.int .i64 (BI r v)):=by
 obtain ⟨h1,h2,h3,h4⟩:=h.one;unfold RA;refine ah func27 I I ?_
 (refine Jr<|Jy I I fun _ _=>Ja I<|Ji<|Jv I<|bK I I ae ?_;refine JL I .here I ?_)
 refine ab (EB (.of I) (.of I)) I ?_
 (refine ai dH I (fun w' aq=>(uE v 0 _ w')) ?_;refine Ja I<|Jn<|Je<|JT ?_)
 rfl
theorem DV {r:Ro} {s d t p:Value} (o:ByteArray) {w:World} (h:RR w r s d t p):aj T_ 26 [RA r s d t p,.string o] w (.int .i64 (tW r o)):=by
 obtain ⟨h1,h2,h3,h4⟩:=h.one;have qk:∀ w',aD [] w w'->aj T_ 56 [.agg #[.int .i64 r.lv,.int .i64 r.ma,s,d,t,p],.string o] w' (.int .i64 (bd (cz r) o)):=fun w' hk=>uU o (h.keeps hk)
 unfold RA;refine ah func26 I I ?_
 (refine Jr<|Jy I I fun _ _=>Ja I<|Ji<|ab (cr .here) I ?_;refine Jv I<|ai aX I (fun w' aq=>(qk w' (Mem.keeps aq))) ?_;refine JA I<|ai aX I (fun w' aq=>(kB _ 10 w')) ?_;refine Ja I<|Jn<|Je<|JT ?_)
 rfl
theorem DU {r:Ro} {s d t p:Value} (o:ByteArray) {w:World} (h:RR w r s d t p):aj T_ 29 [RA r s d t p,.string o] w (.int .i64 (Lk r o)):=by
 obtain ⟨h1,h2,h3,h4⟩:=h.one;have qk:∀ w',aD [] w w'->aj T_ 130 [.agg #[.int .i64 r.lv,.int .i64 r.ma,s,d,t,p],.string o] w' (.int .i64 (bd (ct r) o)):=fun w' hk=>r7 o (h.keeps hk)
 unfold RA;refine ah func29 I I ?_
 (refine Jr<|Jy I I fun _ _=>Ja I<|Ji<|ab (cr .here) I ?_;refine Jv I<|ai aX I (fun w' aq=>(qk w' (Mem.keeps aq))) ?_;refine JA I<|ai aX I (fun w' aq=>(kB _ 10 w')) ?_;refine Ja I<|Jn<|Je<|JT ?_)
 rfl
theorem Az (po:List Po) (v:Int):∀ (n:Nat) (o:ByteArray),(px po v n o).length<=n
 | 0,_=>Nat.le_refl _
 | n + 1, o => by
  rw [px];split
  ·exact Zi _
  ·rw [List.length_cons];exact Nat.succ_le_succ (Az po v n _)
theorem Fq {r:Ro} {s d t p:Value} (v:Int) (o:ByteArray) (n:Nat) (hn:n<=1000) {w:World} (h:RR w r s d t p):bh T_ 132 [RA r s d t p,.int .i64 v,.string o,.int .i64 (n:Nat)] w [] (fun _:Value=>True) id (fun x=>[row 9 1 x (px r.po v n o).length (aM (px r.po v n o))]):=by
 obtain ⟨h1,h2,h3,h4⟩:=h.one;have my:∀ (o':ByteArray) w',aD [] w w'->aj T_ 133 [.agg #[.int .i64 r.lv,.int .i64 r.ma,s,d,t,p],.int .i64 v,.string o'] w' (.string ((ep r.po v o').getD ⟨#[]⟩)):=fun o' w' hk=>rO v o' (h.keeps hk)
 unfold RA;refine aR func132 I I ?_;refine Jr<|Jy I I fun _ _=>Ja I<|Ji<|Ja I<|Jn<|Jq<|Jr<|Ja I<|Jn<|J0 ?_;rename_i b4 uQ;refine aP 9 1 ?_;refine aY (ι:=Nat×ByteArray×Value×List ByteArray) (fun y=>y.1<=n/\y.2.2.2.length=y.1/\px r.po v n o=y.2.2.2++px r.po v (n-y.1) y.2.1) (fun y=>[(10,.int .i64 (y.1:Nat)),(9,y.2.2.1),(2,.string y.2.1),(1,.int .i64 v),(3,.int .i64 (n:Nat)),(4,.pointer (some ⟨b4,0,none⟩))]) (fun y=>[row 9 1 y.2.2.1 y.1 (aM y.2.2.2),JQ b4 r s d t p]) (fun y=>n-y.1) ?_ ?_
 ·apply aK (0,o,.slice none 0 0,[]) ⟨Zi _,I,I⟩
  case hs1=>exact cj
  case ht=>
   exact .cons .here (.cons .here .nil)
 rintro ⟨k,o',v',L⟩ ⟨hk,hL,hc⟩;dsimp only at hk hL hc ⊢;have hlen:(aM L).length=k*1:=by rw [dd,hL];omega
 by_cases aL:k<n/\o'≠⟨#[]⟩
 ·obtain ⟨g1,g2⟩:=aL;have jL:px r.po v n o=(L++[o'])++px r.po v (n-(k+1)) ((ep r.po v o').getD ⟨#[]⟩):=by
   rw [hc,show n-k=(n-(k+1))+1 by omega,px,if_neg g2,Zh];rfl
  (refine Jq<|Jr<|Jv I<|Jv I<|JA I<|Jv I<|fM I I I I ?_;refine aC I I inferInstance (fun hg br=>(ig (.bL hg I) (.of I))) I ?_;refine ab (bH (.of I) I) I ?_;refine Jn<|oz I (fun ar=>?_) fun ar=>?_;refine Jk<|Jq<|J0<|Jr<|Jv I<|Jv I<|bb (aB (.cons (.of I) .nil) I I I I) I fun _ _=>?_;rotate_left;refine Jp<|Jl<|Jo<|Jt<|Jr<|Jv I<|Ja I<|Jn<|Je ?_;rotate_right)
  refine bE (.of I) (.of I) (.there .here) .here an (by rfl) (eF I) (by rfl) (by rfl) (by rfl) eV (by rfl) ?_;intro x
  (refine Ja I<|Jn<|Jg<|ab (cr bT) I ?_;refine Jv I<|Jv I<|ai dH I (fun w' aq=>(my o' w' (Mem.keeps aq))) ?_;refine Ja I<|Jx<|Jj<|Jt<|Jg<|Jv I<|JB I (by omega)<|Ja I<|Jn ?_)
  apply aJ (k+1,(ep r.po v o').getD ⟨#[]⟩,x,L++[o']) ⟨by show k+1<=n;omega,by show (L++[o']).length=k+1;rw [Zg,hL];rfl,jL⟩ (by show n-(k+1)<n-k;omega)
  case hs1=>exact cj
  case ht=>
   show bn _ [row 9 1 x (k+1) (aM (L++[o'])),JQ b4 r s d t p] _;rw [show aM (L++[o'])=aM L++[.string o'] from eQ _ _];exact .cons .here (.cons (.there .here) .nil)
  exact ar.elim (fun z=>absurd (show ((k:Nat):Int)<(n:Nat) by omega) z) (fun z=>absurd g2 z)
 ·have he:px r.po v n o=L:=by
   rw [hc];by_cases g:k<n
   ·have:o'=⟨#[]⟩:=Classical.byContradiction fun q=>aL ⟨g,q⟩
    rw [this,PE,List.append_nil]
   ·rw [show n-k=0 by omega,px,List.append_nil]
  have JO:¬ ((k:Nat):Int)<(n:Nat)\/¬ o'≠⟨#[]⟩:=by
   by_cases g:k<n
   ·exact .inr fun q=>aL ⟨g,q⟩
   ·exact .inl (by omega)
  rw [he,hL]
  (refine Jq<|Jr<|Jv I<|Jv I<|JA I<|Jv I<|fM I I I I ?_;refine aC I I inferInstance (fun hg br=>(ig (.bL hg I) (.of I))) I ?_;refine ab (bH (.of I) I) I ?_;refine Jn<|oz I (fun ar=>?_) fun ar=>?_;refine Jk<|Jq<|J0<|Jr<|Jv I<|Jv I<|bb (aB (.cons (.of I) .nil) I I I I) I fun _ _=>?_;rotate_left;refine Jp<|Jl<|Jo<|Jt<|Jr<|Jv I<|Ja I<|Jn<|Je ?_;rotate_right)
  ·exact absurd ar (by intro q;rcases JO with z | z;exact z q.1;exact z q.2)
  first | with_reducible apply aN | with_reducible apply aO
  case he=>exact dJ I I
  case hR=>
   intro w' aq;exact aG v' trivial (by exact .cons .here .nil) aq I

def AW (r:Ro) (v:Int) (o:ByteArray):List ByteArray:=if bd (ct r) ((px r.po v 8 o).getLastD ⟨#[]⟩)<0 then [] else (px r.po v 8 o).reverse
theorem L4 {r:Ro} {s d t p:Value} (v:Int) (o:ByteArray) (ho:o≠⟨#[]⟩) {w:World} (h:RR w r s d t p):bh T_ 31 [RA r s d t p,.int .i64 v,.string o] w [] (fun _:Value=>True) id (fun x=>[row 9 1 x (AW r v o).length (aM (AW r v o))]):=by
 obtain ⟨h1,h2,h3,h4⟩:=h.one;have NB:∀ (o':ByteArray) w',aD [] w w'->aj T_ 130 [.agg #[.int .i64 r.lv,.int .i64 r.ma,s,d,t,p],.string o'] w' (.int .i64 (bd (ct r) o')):=fun o' w' hk=>r7 o' (h.keeps hk)
 have Rw:∀ w',aD [] w w'->bh T_ 132 [.agg #[.int .i64 r.lv,.int .i64 r.ma,s,d,t,p],.int .i64 v,.string o,.int .i64 8] w' [] (fun _:Value=>True) id (fun x=>[row 9 1 x (px r.po v 8 o).length (aM (px r.po v 8 o))]):=fun w' hk=>Fq v o 8 (by decide) (h.keeps hk)
 have hle:=Az r.po v 8 o;obtain ⟨m,hm⟩:∃ m,(px r.po v 8 o).length=m+1:=by
  rw [px,if_neg ho];exact ⟨_,I⟩
 unfold AW;generalize px r.po v 8 o=L at Rw hle hm ⊢;rw [hm] at Rw;unfold RA;refine aR func31 I I ?_
 (refine Jr<|Jy I I fun _ _=>Ja I<|Ji<|ab (cr .here) I ?_;refine Jv I<|Jv I ?_)
 refine JN nO I (fun w1 aS=>Rw w1 aS.keeps) ?_;intro x _;dsimp only [id_eq,Zb,Za];refine Ja I<|Jn<|Jq<|Jq ?_;rename_i b3 tQ;refine c7 (E:=9) (sz:=1) (v:=x) (by exact .here) (Nat.succ_pos m) ?_;rintro g gc cur e c8 _ _ _;subst e;have O8:(aM L++cur)[m*1]? = some (.string (L.getLastD ⟨#[]⟩)):=by
  rw [rp L cur (by omega)];congr 2;rw [List.getLastD_eq_getLast?,List.getLast?_eq_getElem?,show L.length-1=m by omega,Zc (by omega)];rfl
 have JY:(aM L++cur)[(((Nat.succ m:Nat):Int)-1).toNat*1]? = some (.string (L.getLastD ⟨#[]⟩)):=by
  rw [show (((Nat.succ m:Nat):Int)-1).toNat=m by omega];exact O8
 with_reducible refine cW 7 (by kernel_rfl) ?_
 (refine aA (cr (.there .here)) I ?_;refine iv I I ?_;refine iv I I ?_;refine aA (cg (.of I)) I ?_;refine aA (sD (.of I) (.of I) (QO (by omega))) I ?_;refine aA (az (.of I) (.of I) I (by omega) (by omega) ba) I ?_;refine aA (ag (.of I) (At.lP .here JY)) I ?_)
 with_reducible refine cZ ?_
 (refine ai aX I (fun w' aq=>(NB _ w' (Mem.keeps aq))) ?_;refine JA I<|Jn<|gl I (fun ar=>?_) fun ar=>?_;refine Jr<|Ja I<|Jn<|Ju ?_;rotate_left;refine Jk<|Jr<|Ja I<|Jn<|Jq<|Jr<|Jv I<|JI I<|JS I (by omega)<|Ja I<|Jn<|J0 ?_;rotate_right)
 ·rw [if_pos ar];refine aP 9 1 ?_
  first | with_reducible apply aN | with_reducible apply aO
  case he=>exact dJ I I
  case hR=>
   intro w' aq;exact aG (.slice none 0 0) trivial (by exact .cons .here .nil) aq I
 rw [if_neg ar];refine aP 9 1 ?_;refine aY (ι:=Nat×Int×Value) (fun y=>y.1<=m+1/\y.2.1=(m:Int)-y.1) (fun y=>[(9,.int .i64 y.2.1),(8,y.2.2),(7,.slice (some ⟨g,0,none⟩) m.succ gc)]) (fun y=>[row 9 1 y.2.2 y.1 (aM (L.reverse.take y.1)),bC g (.cells (aM L++cur).toArray 9 (0,0))]) (fun y=>m+1-y.1) ?_ ?_
 ·apply aK (0,((Nat.succ m:Nat):Int)-1,.slice none 0 0) ⟨Zi _,by show ((Nat.succ m:Nat):Int)-1=(m:Int)-((0:Nat):Int);omega⟩
  case hs1=>exact cj
  case ht=>
   exact .cons .here (.cons .here .nil)
 rintro ⟨k,i,v'⟩ ⟨hk,hi⟩;dsimp only at hk hi ⊢;clear O8 JY ar;have T2:L.reverse.length=m+1:=by rw [List.length_reverse,hm]
 by_cases aL:k<m+1
 ·have hj:(aM L++cur)[i.toNat*1]? = some (.string (L.reverse[k]'(by omega))):=by
   rw [show i.toNat=m-k by omega,rp L cur (by omega),List.getElem_reverse];congr 3;omega
  have htk:aM (L.reverse.take (k+1))=aM (L.reverse.take k)++[.string (L.reverse[k]'(by omega))]:=by
   rw [List.take_succ_eq_append_getElem (by omega)];exact eQ _ _
  have hlen:(aM (L.reverse.take k)).length=k*1:=by rw [dd,List.length_take];omega
  generalize L.reverse[k]'(by omega)=z at hj htk
  (refine Jq<|Jr<|Jv I<|JG I<|Jn<|Jd I fun ar=>Jk<|Jq<|J0<|Jg<|Jv I<|Jv I<|Jv I<|ab (az (.of I) (.of I) I ar (by omega) ba) I ?_;refine ab (ag (.of I) (At.lP (.there .here) hj)) I ?_;refine bb (aB (.cons (.of I) .nil) I I I I) I fun _ _=>?_)
  refine bE (.of I) (.of I) (.there .here) .here an (by rfl) (eF I) (by rfl) (by rfl) (by rfl) eV (by rfl) ?_;intro q;refine Ja I<|Jx<|Jj<|Jt<|Jg<|Jv I<|JS I (by omega)<|Ja I<|Jn ?_;apply aJ (k+1,i-1,q) ⟨by show k+1<=m+1;omega,by show i-1=(m:Int)-((k+1:Nat):Int);omega⟩ (by show m+1-(k+1)<m+1-k;omega)
  case hs1=>exact cj
  case ht=>
   show bn _ [row 9 1 q (k+1) (aM (L.reverse.take (k+1))),bC g (.cells (aM L++cur).toArray 9 (0,0))] _;rw [htk];exact .cons .here (.cons (.there .here) .nil)
 obtain rfl:k=m+1:=by omega
 rw [List.take_of_length_le (by omega)];refine Jq<|Jr<|Jv I<|JG I<|Jn<|Jc I fun ar=>Jp<|Jl<|Jo<|Jt<|Jr<|Jv I<|Ja I<|Jn<|Je ?_
 first | with_reducible apply aN | with_reducible apply aO
 case he=>exact dJ I I
 case hR=>
  intro w' aq;rw [T2];exact aG v' trivial (by exact .cons .here .nil) aq I
def Oj (r:Ro) (v:Int) (o:ByteArray):ByteArray:=(AW r v o).headD ⟨#[]⟩
theorem y7 {r:Ro} {s d t p:Value} (v:Int) (o:ByteArray) (ho:o≠⟨#[]⟩) {w:World} (h:RR w r s d t p):aj T_ 131 [RA r s d t p,.int .i64 v,.string o] w (.string (Oj r v o)):=by
 obtain ⟨h1,h2,h3,h4⟩:=h.one;have Q0:∀ w',aD [] w w'->bh T_ 31 [.agg #[.int .i64 r.lv,.int .i64 r.ma,s,d,t,p],.int .i64 v,.string o] w' [] (fun _:Value=>True) id (fun x=>[row 9 1 x (AW r v o).length (aM (AW r v o))]):=fun w' hk=>L4 v o ho (h.keeps hk)
 unfold Oj;generalize AW r v o=L at Q0 ⊢;unfold RA;refine ah func131 I I ?_
 (refine Jr<|Jy I I fun _ _=>Ja I<|Ji<|ab (cr .here) I ?_;refine Jv I<|Jv I ?_)
 refine JN dH I (fun w1 aS=>Q0 w1 aS.keeps) ?_;intro x _;dsimp only [id_eq,Zb,Za];cases L with
 | nil =>
  refine aW (E:=9) (sz:=1) (v:=x) (by exact .here) fun xa xc e=>?_;subst e
  (refine Ja I<|Jn<|Jq<|Jr<|Jv I<|JI I<|JC I<|Jn<|gl I (fun ar=>?_) fun ar=>?_;refine Jr<|Ja I<|Jn<|Ju<|JT ?_;rotate_left;refine Jk<|Jr<|Jv I ?_;rotate_right)
  all_goals first | rfl | exact absurd I ar
 | cons y L =>
  refine c7 (E:=9) (sz:=1) (v:=x) (by exact .here) (by exact Nat.succ_pos _) ?_;rintro g gc cur e c8 _ _ _;subst e;have ja:(aM (y::L)++cur)[0*1]? = some (.string y):=rfl;have vS:(y::L).length=L.length+1:=rfl;rw [vS]
  (refine Ja I<|Jn<|Jq<|Jr<|Jv I<|JI I<|JC I<|Jn<|Jc I fun ar=>Jk<|Jr<|Jv I<|ab (az (.of I) (.of I) I (by omega) (by omega) ba) I ?_;refine JL I .here I<|Ja I<|Jn<|Je<|JT ?_)
  all_goals first | rfl | omega

theorem DH {lv:Value} {l:List ByteArray} (o:ByteArray) {w:World} (h:Rd w lv 1 (fG l)):aj T_ 59 [lv,.string o] w (.bool (fI l o)):=by
 obtain ⟨a,cp,b,o',rfl,c8,bV,ha,hc⟩:=h;rw [bA] at *;unfold maxLen at bV;refine ah func59 I I ?_;refine Jr<|Ja I<|Jn<|Jq<|Jr<|Ja I<|Jn<|J0 ?_;refine aY (ι:=Nat) (fun k=>k<=l.length/\∀ j (hj:j<l.length),j<k->l[j]≠o) (fun k=>[(5,.int .i64 (k:Nat)),(0,.slice a l.length cp),(1,.string o)]) (fun _=>[]) (fun k=>l.length-k) ?_ ?_
 ·apply aK (0:Nat) ⟨Zi _,fun j _ hj=>absurd hj (Nat.not_lt_zero _)⟩
  case hs1=>exact cj
  case ht=>(try simp only [Ze,Zf,Za]);exact .nil
 rintro k ⟨hk,hf⟩;by_cases aL:k<l.length
 ·have cM:=ha (iy aL);have c0:w.cell? ⟨b,o'+k*1,none⟩=some (.string l[k]):=(hc k _ (fF aL)).2 0 _ I;have hm:=Zj aL;have AP:l[k]≠o->∀ j (hj:j<l.length),j<k+1->l[j]≠o:=fun q j hj VX=>by
   by_cases e:j=k
   ·subst e;exact q
   ·exact hf j hj (by omega)
  generalize l[k]=x at c0 hm AP
  (refine Jq<|Jr<|Jv I<|Jv I<|JI I<|JA I<|Jn<|Jd I fun ar=>Jk<|Jq<|J0<|Jr<|Jv I<|Jv I<|ab (gj cM ar) I ?_;refine ab (ag (.of I) (At.base c0 I)) I ?_;refine Jv I<|ab (eh (.of I) (.of I)) I ?_;refine Jn<|gl I (fun ar=>?_) fun ar=>?_;refine Jr<|Ja I<|Jn<|Je<|Jm<|Jh<|Jh<|Jm<|Jh<|JT ?_;rotate_left;refine Jw<|Jj<|Jt<|Jg<|Jv I<|JB I (by omega)<|Ja I<|Jn ?_;rotate_right)
  ·have tH:x=o:=ar;rw [ef.2 (tH ▸ hm)]
  ·have tH:¬ x=o:=ar;apply aJ (k+1) ⟨(show k+1<=l.length from aL),AP tH⟩ (show l.length-(k+1)<l.length-k by omega)
   case hs1=>exact cj
   case ht=>(try simp only [Ze,Zf,Za]);exact .nil
 ·have e:fI l o=false:=by
   rw [<- Bool.not_eq_true,ef];intro q;obtain ⟨j,hj,e⟩:=List.getElem_of_mem q;exact hf j hj (by omega) e
  obtain rfl:k=l.length:=by omega
  rw [e];refine Jq<|Jr<|Jv I<|Jv I<|JI I<|JA I<|Jn<|Jc I fun ar=>Jp<|Jl<|Jo<|Jt<|Jr<|Ja I<|Jn<|Je<|JT ?_
  rfl
theorem EN {r:Ro} {s d t p:Value} {w:World} (h:RR w r s d t p) (hf:nP r):bh T_ 77 [RA r s d t p] w [] (fun _:Value=>True) id (fun x=>[row 9 1 x (ew r).length (aM (ew r))]):=by
 obtain ⟨h1,h2,h3,h4⟩:=h.one;have BV:=h.sr;have DG:=h.de;have xx:=h.ti;obtain ⟨a1,dZ,G2,GX,rfl,nS,hG,kK,kc⟩:=BV;obtain ⟨a2,dB,LG,Lr,rfl,jK,eE,iT,jL⟩:=DG;obtain ⟨a3,dQ,Fu,EI,rfl,lo,fD,qA,nW⟩:=xx;rw [cu] at *;rw [bZ] at *;rw [bO] at *;unfold maxLen at hG eE fD;obtain ⟨f1,f2,f3,f4⟩:=hf;unfold RA;refine aR func77 I I ?_;refine Jr<|Jy I I fun _ _=>Ja I<|Ji<|Ja I<|Jn<|Jq<|Jr<|Ja I<|Jn<|J0 ?_;rename_i b1 tR;refine aP 9 1 ?_;refine aY (ι:=Nat×Value×List ByteArray) (fun y=>y.1<=r.sr.length/\y.2.2=([]:List ByteArray)++(ct r).take y.1) (fun y=>[(4,.int .i64 (y.1:Nat)),(3,y.2.1),(1,.pointer (some ⟨b1,0,none⟩))]) (fun y=>[row 9 1 y.2.1 y.2.2.length (aM y.2.2),JQ b1 r (.slice a1 r.sr.length dZ) (.slice a2 r.de.length dB) (.slice a3 r.ti.length dQ) p]) (fun y=>r.sr.length-y.1) ?_ ?_
 ·apply aK (0,.slice none 0 0,[]) ⟨Zi _,I⟩
  case hs1=>exact cj
  case ht=>
   exact .cons .here (.cons .here .nil)
 rintro ⟨k,v1,L1⟩ ⟨hk,SR⟩;dsimp only at hk SR ⊢;have YV:(ct r).length=r.sr.length:=by unfold ct;rw [Zd]
 by_cases aL:k<r.sr.length
 ·have Kj:L1.length=(([]:List ByteArray)).length+k:=by rw [SR,Zg,List.length_take];omega
  have ZR:L1.length<=3000000:=by rw [Kj];simp only [List.length_nil];omega
  have hlen:(aM L1).length=L1.length*1:=by rw [dd];omega
  have cM:=kK (gL aL);have c0:w.cell? ⟨G2,GX+k*2,none⟩=some (.string (r.sr[k]).nm):=(kc k _ (fk aL)).2 0 _ I;have hx:(ct r)[k]'(by omega)=(r.sr[k]).nm:=by unfold ct;rw [List.getElem_map]
  have uR:L1++[(r.sr[k]).nm]=([]:List ByteArray)++(ct r).take (k+1):=by rw [List.take_succ_eq_append_getElem (by omega),hx,<- Zh,<- SR]
  generalize (r.sr[k]).nm=x at c0 hx uR
  (refine Jq<|Jr<|Jv I<|bK I I ae ?_;refine JL I (.there .here) I<|JI I<|JA I<|Jn<|Jd I fun ar=>Jk<|Jq<|J0<|Jg<|Jv I<|bK I I ae ?_;refine JL I (.there .here) I<|Jv I<|ab (gj cM ar) I ?_;refine bK I I ae ?_;refine ab (ag (.of I) (At.base c0 I)) I ?_;refine bb (aB (.cons (.of I) .nil) I I I I) I fun _ _=>?_)
  refine bE (.of I) (.of I) (.there .here) .here an (by rfl) (eF I) (by rfl) (by rfl) (by rfl) eV (by rfl) ?_;intro z;refine Ja I<|Jx<|Jj<|Jt<|Jg<|Jv I<|JB I (by omega)<|Ja I<|Jn ?_;apply aJ (k+1,z,L1++[x]) ⟨by show k+1<=r.sr.length;omega,uR⟩ (by show r.sr.length-(k+1)<r.sr.length-k;omega)
  case hs1=>exact cj
  case ht=>
   show bn _ [row 9 1 z (L1++[x]).length (aM (L1++[x])),JQ b1 r (.slice a1 r.sr.length dZ) (.slice a2 r.de.length dB) (.slice a3 r.ti.length dQ) p] _;rw [show aM (L1++[x])=aM L1++[.string x] from eQ _ _,Zg,List.length_singleton];exact .cons .here (.cons (.there .here) .nil)
 obtain rfl:k=r.sr.length:=by omega
 rw [List.take_of_length_le (by omega)] at SR;clear hk aL
 (refine Jq<|Jr<|Jv I<|bK I I ae ?_;refine JL I (.there .here) I<|JI I<|JA I<|Jn<|Jc I fun ar=>Jp<|Jl<|Jo<|Jt<|Jq<|Jr<|Ja I<|Jn<|J0 ?_)
 rw [Za] at SR;refine aY (ι:=Nat×Value×List ByteArray) (fun y=>y.1<=r.de.length/\y.2.2=ct r++(cz r).take y.1) (fun y=>[(5,.int .i64 (y.1:Nat)),(3,y.2.1),(1,.pointer (some ⟨b1,0,none⟩))]) (fun y=>[row 9 1 y.2.1 y.2.2.length (aM y.2.2),JQ b1 r (.slice a1 r.sr.length dZ) (.slice a2 r.de.length dB) (.slice a3 r.ti.length dQ) p]) (fun y=>r.de.length-y.1) ?_ ?_
 ·apply aK (0,v1,L1) ⟨Zi _,by rw [Ze,List.append_nil];exact SR⟩
  case hs1=>exact cj
  case ht=>
   exact .cons .here (.cons .here .nil)
 rintro ⟨k,v2,L2⟩ ⟨hk,uR⟩;dsimp only at hk uR ⊢;have nn2:(cz r).length=r.de.length:=by unfold cz;rw [Zd]
 by_cases aL:k<r.de.length
 ·have Kj:L2.length=(ct r).length+k:=by rw [uR,Zg,List.length_take];omega
  have ZR:L2.length<=3000000:=by rw [Kj];rw [YV];omega
  have hlen:(aM L2).length=L2.length*1:=by rw [dd];omega
  have cM:=iT (gS aL);have c0:w.cell? ⟨LG,Lr+k*3,none⟩=some (.string (r.de[k]).nm):=(jL k _ (fu aL)).2 0 _ I;have hx:(cz r)[k]'(by omega)=(r.de[k]).nm:=by unfold cz;rw [List.getElem_map]
  have uR:L2++[(r.de[k]).nm]=ct r++(cz r).take (k+1):=by rw [List.take_succ_eq_append_getElem (by omega),hx,<- Zh,<- uR]
  generalize (r.de[k]).nm=x at c0 hx uR
  (refine Jq<|Jr<|Jv I<|bK I I ae ?_;refine JL I (.there .here) I<|JI I<|JA I<|Jn<|Jd I fun ar=>Jk<|Jq<|J0<|Jg<|Jv I<|bK I I ae ?_;refine JL I (.there .here) I<|Jv I<|ab (gj cM ar) I ?_;refine bK I I ae ?_;refine ab (ag (.of I) (At.base c0 I)) I ?_;refine bb (aB (.cons (.of I) .nil) I I I I) I fun _ _=>?_)
  refine bE (.of I) (.of I) (.there .here) .here an (by rfl) (eF I) (by rfl) (by rfl) (by rfl) eV (by rfl) ?_;intro z;refine Ja I<|Jx<|Jj<|Jt<|Jg<|Jv I<|JB I (by omega)<|Ja I<|Jn ?_;apply aJ (k+1,z,L2++[x]) ⟨by show k+1<=r.de.length;omega,uR⟩ (by show r.de.length-(k+1)<r.de.length-k;omega)
  case hs1=>exact cj
  case ht=>
   show bn _ [row 9 1 z (L2++[x]).length (aM (L2++[x])),JQ b1 r (.slice a1 r.sr.length dZ) (.slice a2 r.de.length dB) (.slice a3 r.ti.length dQ) p] _;rw [show aM (L2++[x])=aM L2++[.string x] from eQ _ _,Zg,List.length_singleton];exact .cons .here (.cons (.there .here) .nil)
 obtain rfl:k=r.de.length:=by omega
 rw [List.take_of_length_le (by omega)] at uR;clear hk aL
 (refine Jq<|Jr<|Jv I<|bK I I ae ?_;refine JL I (.there .here) I<|JI I<|JA I<|Jn<|Jc I fun ar=>Jp<|Jl<|Jo<|Jt<|Jq<|Jr<|Ja I<|Jn<|J0 ?_)
 refine aY (ι:=Nat×Value×List ByteArray) (fun y=>y.1<=r.ti.length/\y.2.2=(ct r++cz r)++(cd r).take y.1) (fun y=>[(6,.int .i64 (y.1:Nat)),(3,y.2.1),(1,.pointer (some ⟨b1,0,none⟩))]) (fun y=>[row 9 1 y.2.1 y.2.2.length (aM y.2.2),JQ b1 r (.slice a1 r.sr.length dZ) (.slice a2 r.de.length dB) (.slice a3 r.ti.length dQ) p]) (fun y=>r.ti.length-y.1) ?_ ?_
 ·apply aK (0,v2,L2) ⟨Zi _,by rw [Ze,List.append_nil];exact uR⟩
  case hs1=>exact cj
  case ht=>
   exact .cons .here (.cons .here .nil)
 rintro ⟨k,v3,L3⟩ ⟨hk,Pm⟩;dsimp only at hk Pm ⊢;have nn3:(cd r).length=r.ti.length:=by unfold cd;rw [Zd]
 by_cases aL:k<r.ti.length
 ·have Kj:L3.length=((ct r++cz r)).length+k:=by rw [Pm,Zg,List.length_take];omega
  have ZR:L3.length<=3000000:=by rw [Kj];rw [Zg,YV,nn2];omega
  have hlen:(aM L3).length=L3.length*1:=by rw [dd];omega
  have cM:=qA (eO aL);have c0:w.cell? ⟨Fu,EI+k*3,none⟩=some (.string (r.ti[k]).nm):=(nW k _ (dY aL)).2 0 _ I;have hx:(cd r)[k]'(by omega)=(r.ti[k]).nm:=by unfold cd;rw [List.getElem_map]
  have uR:L3++[(r.ti[k]).nm]=(ct r++cz r)++(cd r).take (k+1):=by rw [List.take_succ_eq_append_getElem (by omega),hx,<- Zh,<- Pm]
  generalize (r.ti[k]).nm=x at c0 hx uR
  (refine Jq<|Jr<|Jv I<|bK I I ae ?_;refine JL I (.there .here) I<|JI I<|JA I<|Jn<|Jd I fun ar=>Jk<|Jq<|J0<|Jg<|Jv I<|bK I I ae ?_;refine JL I (.there .here) I<|Jv I<|ab (gj cM ar) I ?_;refine bK I I ae ?_;refine ab (ag (.of I) (At.base c0 I)) I ?_;refine bb (aB (.cons (.of I) .nil) I I I I) I fun _ _=>?_)
  refine bE (.of I) (.of I) (.there .here) .here an (by rfl) (eF I) (by rfl) (by rfl) (by rfl) eV (by rfl) ?_;intro z;refine Ja I<|Jx<|Jj<|Jt<|Jg<|Jv I<|JB I (by omega)<|Ja I<|Jn ?_;apply aJ (k+1,z,L3++[x]) ⟨by show k+1<=r.ti.length;omega,uR⟩ (by show r.ti.length-(k+1)<r.ti.length-k;omega)
  case hs1=>exact cj
  case ht=>
   show bn _ [row 9 1 z (L3++[x]).length (aM (L3++[x])),JQ b1 r (.slice a1 r.sr.length dZ) (.slice a2 r.de.length dB) (.slice a3 r.ti.length dQ) p] _;rw [show aM (L3++[x])=aM L3++[.string x] from eQ _ _,Zg,List.length_singleton];exact .cons .here (.cons (.there .here) .nil)
 obtain rfl:k=r.ti.length:=by omega
 rw [List.take_of_length_le (by omega)] at Pm;clear hk aL
 (refine Jq<|Jr<|Jv I<|bK I I ae ?_;refine JL I (.there .here) I<|JI I<|JA I<|Jn<|Jc I fun ar=>Jp<|Jl<|Jo<|Jt<|Jr<|Jv I<|Ja I<|Jn<|Je ?_)
 have e:ew r=L3:=Pm.symm;rw [e]
 first | with_reducible apply aN | with_reducible apply aO
 case he=>exact dJ I I
 case hR=>
  intro w' aq;exact aG v3 trivial (by exact .cons .here .nil) aq I
theorem Fp {r:Ro} (h:gB r=0):GP r:=prt (td h).2.1
theorem OY {r:Ro} (h:gB r=0):∀ p∈r.po,p.ip≠⟨#[]⟩:=fun p hp=>
 (Fp h).ne (((Di h).val.xw p hp).elim .inl fun q=>.inr (.inr q))
theorem KN {r:Ro} (h:gB r=0) {v:Int} {o:ByteArray} (ho:o≠⟨#[]⟩):px r.po v 8 o=o::fh r.po v 7 o:=uW (OY h) 7 ho
theorem KM {r:Ro} (h:gB r=0) {v:Int} {o:ByteArray} (ho:o≠⟨#[]⟩):(px r.po v 8 o).getLastD ⟨#[]⟩=ib r.po v 7 o:=by
 rw [KN h ho,List.getLastD_cons];unfold ib;cases fh r.po v 7 o with
 | nil=>rfl
 | cons a l=>rw [List.getLastD_eq_getLast?]
theorem Ft {r:Ro} (h:gB r=0) (v:Int) {o:ByteArray} (ho:o≠⟨#[]⟩):Oj r v o=jX r v o:=by
 rw [te (Di h).ue (Di h).val];unfold Oj AW pZ;rw [KM h ho,KN h ho];split
 ·rfl
 ·rw [List.reverse_cons];unfold ib;cases e:fh r.po v 7 o with
  | nil=>rfl
  | cons a l =>
   rw [List.headD_eq_head?_getD,List.head?_append,List.head?_reverse];cases q:(a::l).getLast? with
   | none=>exact absurd (List.getLast?_eq_none_iff.1 q) (by simp)
   | some y=>rfl
def YJ (r:Ro):Int:=if nD r≠0 then nD r else if j4 r≠0 then j4 r else zP r
theorem R9 (r:Ro):YJ r=gB r:=by
 unfold YJ gB;by_cases h1:nD r=0
 ·rw [if_neg (not_not_intro h1),if_neg (not_not_intro h1)];by_cases h2:j4 r=0
  ·rw [if_neg (not_not_intro h2),if_neg (not_not_intro h2),MH (prt h2)]
  ·rw [if_pos h2,if_pos h2]
 ·rw [if_pos h1,if_pos h1]
def zO (r:Ro) (k:Nat):Int:=((ew r)[k]?.map fun x=>aV [bG (!kg x) 8,bG (fI ((ew r).take k) x) 9]).getD 0
theorem MG {r:Ro} {k:Nat} (h:k<(ew r).length):zO r k=aV [bG (!kg (ew r)[k]) 8,bG (fI ((ew r).take k) (ew r)[k]) 9]:=by
 unfold zO;rw [Zc h];rfl
theorem sW (a b:Int) (l:List Int):aV (aV [a,b]::l)=aV (a::b::l):=by
 by_cases ha:a=0
 ·subst ha;have e:aV [0,b]=b:=by
   unfold aV;rw [if_neg (by decide)];unfold aV;split
   ·rfl
   ·rename_i q;rw [Decidable.not_not] at q;rw [q];rfl
  rw [e]
  conv=>rhs;unfold aV
  rw [if_neg (by decide)]
 ·have e:aV [a,b]=a:=by unfold aV;rw [if_pos ha]
  rw [e];unfold aV;rw [if_pos ha,if_pos ha]
theorem DL (a b:Int) (l:List Int):aV [a,b,aV l]=aV (a::b::l):=by
 have h1:∀ x:Int,∀ m,aV (x::m)=if x≠0 then x else aV m:=fun x m=>by rw [aV]
 have h2:∀ x:Int,aV [x]=x:=fun x=>by
  rw [h1];split
  ·rfl
  ·rename_i q;rw [Decidable.not_not] at q;rw [q];rfl
 rw [h1,h1 b,h2,h1 a,h1 b]
theorem K8 (r:Ro):(ew r).length=r.sr.length+r.de.length+r.ti.length:=by
 unfold ew ct cz cd;simp only [Zg,Zd]
theorem K7 {r:Ro} {k:Nat} (h:k<r.sr.length):(ew r)[k]? = some (r.sr[k]).nm/\(ew r).take k=[]++(r.sr.take k).map Sr.nm:=by
 have e1:(ct r).length=r.sr.length:=by unfold ct;rw [Zd]
 unfold ew;rw [Zh];refine ⟨?_,?_⟩
 ·rw [List.getElem?_append_left (by omega)];unfold ct;rw [List.getElem?_map,Zc h];rfl
 ·rw [List.take_append_of_le_length (by omega)];unfold ct;rw [List.map_take];rfl
theorem K9 {r:Ro} {k:Nat} (h:k<r.de.length):(ew r)[r.sr.length+k]? = some (r.de[k]).nm/\(ew r).take (r.sr.length+k)=ct r++(r.de.take k).map De.nm:=by
 have e1:(ct r).length=r.sr.length:=by unfold ct;rw [Zd]
 have e2:(cz r).length=r.de.length:=by unfold cz;rw [Zd]
 unfold ew;rw [Zh];refine ⟨?_,?_⟩
 ·rw [List.getElem?_append_right (by omega),List.getElem?_append_left (by omega),show r.sr.length+k-(ct r).length=k by omega];unfold cz;rw [List.getElem?_map,Zc h];rfl
 ·rw [<- e1,List.take_length_add_append,List.take_append_of_le_length (by omega)];unfold cz;rw [List.map_take]
theorem K6 {r:Ro} {k:Nat} (h:k<r.ti.length):(ew r)[r.sr.length+r.de.length+k]? = some (r.ti[k]).nm/\(ew r).take (r.sr.length+r.de.length+k)=(ct r++cz r)++(r.ti.take k).map Ti.nm:=by
 have e1:(ct r++cz r).length=r.sr.length+r.de.length:=by unfold ct cz;rw [Zg,Zd,Zd]
 have e2:(cd r).length=r.ti.length:=by unfold cd;rw [Zd]
 unfold ew;refine ⟨?_,?_⟩
 ·rw [List.getElem?_append_right (by omega),e1,show r.sr.length+r.de.length+k-(r.sr.length+r.de.length)=k by omega];unfold cd;rw [List.getElem?_map,Zc h];rfl
 ·rw [<- e1,List.take_length_add_append];unfold cd;rw [List.map_take]
theorem C9 {r:Ro} {j:Nat} {x:ByteArray} {l:List ByteArray} (h:(ew r)[j]? = some x) (h2:(ew r).take j=l):zO r j=aV [bG (!kg x) 8,bG (fI l x) 9]:=by
 unfold zO;rw [h,h2];rfl
theorem Tt {r:Ro} {k:Nat} (h:k<r.sr.length):aV [zO r k,fq r (r.sr[k]).mx]=xq [] Sr.nm (fun x=>fq r x.mx) r.sr k:=by
 rw [oS h,C9 (K7 h).1 (K7 h).2,sW]
theorem Tu {r:Ro} {k:Nat} (h:k<r.de.length):aV [zO r (r.sr.length+k),fq r (r.de[k]).mx]=xq (ct r) De.nm (fun x=>fq r x.mx) r.de k:=by
 rw [oS h,C9 (K9 h).1 (K9 h).2,sW]
theorem Ts {r:Ro} {k:Nat} (h:k<r.ti.length):aV [zO r (r.sr.length+r.de.length+k),fq r (r.ti[k]).fr,fq r (r.ti[k]).to,bG (decide ((r.ti[k]).fr=(r.ti[k]).to)) 24]=xq (ct r++cz r) Ti.nm (n9 r) r.ti k:=by
 rw [oS h,C9 (K6 h).1 (K6 h).2,sW];unfold n9;rw [DL]
theorem Da {r:Ro} (h1:fm 8 [] Sr.nm (fun x=>fq r x.mx) r.sr=0) (h2:fm 8 (ct r) De.nm (fun x=>fq r x.mx) r.de=0):j4 r=fm 6 (ct r++cz r) Ti.nm (n9 r) r.ti:=by
 rw [VA h1 h2];unfold aV;split
 ·rfl
 ·rename_i q;rw [Decidable.not_not] at q;rw [q];rfl
theorem Qm {c:Cx} {hs hs':List a8} {w:World} (hm:Mem c hs w) {g gc:Nat} {L:List ByteArray} {cur:List Value} {E:TypeId} {fz:Nat×Nat} (ht:Take hs (bC g (.cells (aM L++cur).toArray E fz)) hs') (hc:L.length<=gc) (hx:gc<=maxLen):Rd w (.slice (some ⟨g,0,none⟩) L.length gc) 1 (fG L):=by
 refine ⟨_,gc,g,0,by rw [bA],by rw [bA];exact hc,hx,fun _=>rfl,fun i r hr=>?_⟩;have hi:=(List.getElem?_eq_some_iff.1 hr).1;rw [bA] at hi;rw [fF hi] at hr;obtain rfl:=Option.some.inj hr;refine ⟨I,fun j u hu=>?_⟩;cases j with
 | zero =>
  simp only [List.getElem?_cons_zero,Option.some.injEq] at hu;subst hu;rw [cell_of_block (hm.bC ht)];simp [aM,List.getElem?_append_left,hi]
 | succ j=>simp at hu
theorem H5 {c:Cx} {hs hs':List a8} {w:World} (hm:Mem c hs w) {g gc:Nat} {L:List ByteArray} {cur:List Value} {E:TypeId} {fz:Nat×Nat} (ht:Take hs (bC g (.cells (aM L++cur).toArray E fz)) hs') (hc:L.length<=gc) (hx:gc<=maxLen) {k:Nat} (hk:k<=L.length):Rd w (Go.sliced (some ⟨g,0,none⟩) 0 (k:Int).toNat gc 1) 1 (fG (L.take k)):=by
 have:=(Qm hm ht hc hx).sliced (l:=0) (m:=k) (Zi _) hk;rw [Int.toNat_natCast];rwa [List.drop_zero,show (fG L).take k=fG (L.take k) by unfold fG;rw [List.map_take]] at this
theorem KL {r:Ro} {s d t p:Value} (m:Int) {w w1:World} (h:RR w1 r s d t p):aj T_ 162 [RA r s d t p,.int .i64 m] w (.int .i64 (fq r m)):=by
 obtain ⟨h1,h2,h3,h4⟩:=h.one;unfold RA;refine ah func162 I I ?_
 (refine Jr<|Jy I I fun _ _=>Ja I<|Ji<|Jv I<|JA I<|Jv I<|fM I I I I ?_;refine aC I I inferInstance (fun hg br=>(ao (.of I) ae)) I ?_;refine aC I I inferInstance (fun hg br=>(ag (.bL hg I) (At.lit .here I))) I ?_;refine aC I I inferInstance (fun hg br=>(zK (.bL hg I) (.bL hg I))) I ?_;refine ab (bX (.of I) I) I ?_;refine ai aX I (fun w' aq=>(kB _ 10 w')) ?_;refine Ja I<|Jn<|Je<|JT ?_)
 rfl
theorem Ch {r:Ro} {s d t p:Value} (k:Nat) {w:World} (h:RR w r s d t p) (hf:nP r) (hk:k<(ew r).length):aj T_ 229 [RA r s d t p,.int .i64 (k:Nat)] w (.int .i64 (zO r k)):=by
 obtain ⟨h1,h2,h3,h4⟩:=h.one;have CC:∀ w',aD [] w w'->bh T_ 77 [.agg #[.int .i64 r.lv,.int .i64 r.ma,s,d,t,p]] w' [] (fun _:Value=>True) id (fun x=>[row 9 1 x (ew r).length (aM (ew r))]):=fun w' hk=>EN (h.keeps hk) hf
 rw [MG hk];have vS:(ew r).length<=3000000:=by
  obtain ⟨f1,f2,f3,f4⟩:=hf;unfold ew ct cz cd;simp only [Zg,Zd];omega
 generalize ew r=L at CC hk vS ⊢;have XD:k<=L.length:=by omega
 unfold RA;refine ah func229 I I ?_;refine Jr<|Jy I I fun _ _=>Ja I<|Ji<|ab (cr .here) I ?_;refine JN bN I (fun w1 aS=>CC w1 aS.keeps) ?_;intro x _;dsimp only [id_eq,Zb,Za];refine c7 (E:=9) (sz:=1) (v:=x) (by exact .here) (by omega) ?_;rintro g gc cur e c8 xy _ _;subst e;have ja:(aM L++cur)[k*1]? = some (.string L[k]):=rp L cur hk;refine Ja I<|Jn<|Jq ?_
 with_reducible refine cC 15 (by kernel_rfl) ?_
 (refine ak jP I ?_;refine ak jP I ?_;refine ak (az (.of I) (.of I) I (by omega) (by omega) ba) I ?_;refine ak (ag (.of I) (At.lP .here ja)) I ?_;refine aQ bN I (fun w' aq=>(WI _ w')) ?_;refine ak jP I ?_;refine ak jP I ?_;refine ak (fY (.of I) (.of I) (by omega) (by omega)) I ?_;refine ak jP I ?_;refine ak jP I ?_;refine ak (az (.of I) (.of I) I (by omega) (by omega) ba) I ?_;refine ak (ag (.of I) (At.lP .here ja)) I ?_;refine aQ aX I (fun w' aq=>(DH _ (H5 aq .here c8 xy XD))) ?_;refine aQ aX I (fun w' aq=>(kB _ 9 w')) ?_;refine dX (aB (.cons (.of I) (.cons (.of I) .nil)) I I I I) I I ?_)
 with_reducible refine cY I fun bq mA=>?_
 (refine ai bN I (fun w' aq=>(kq (Mem.df aq .here I I) (bQ.cons (bQ.cons bQ.nil)))) ?_;refine Ja I<|Jn<|Je<|JT ?_)
 rfl
set_option maxHeartbeats 1000000 in
theorem Aw {r:Ro} {s d t p:Value} {w:World} (h:RR w r s d t p) (hf:nP r):aj T_ 127 [RA r s d t p] w (.int .i64 (j4 r)):=by
 obtain ⟨h1,h2,h3,h4⟩:=h.one;have Q8:∀ k,k<(ew r).length->∀ w',aD [] w w'->aj T_ 229 [.agg #[.int .i64 r.lv,.int .i64 r.ma,s,d,t,p],.int .i64 (k:Nat)] w' (.int .i64 (zO r k)):=fun k hk w' XD=>Ch k (h.keeps XD) hf hk
 have jk:∀ (m:Int) {w'},aD [] w w'->aj T_ 162 [.agg #[.int .i64 r.lv,.int .i64 r.ma,s,d,t,p],.int .i64 m] w' (.int .i64 (fq r m)):=fun m _ hk=>KL m (h.keeps hk)
 have dC:=K8 r;have BV:=h.sr;have DG:=h.de;have xx:=h.ti;obtain ⟨a1,dZ,G2,GX,rfl,nS,hG,kK,kc⟩:=BV;obtain ⟨a2,dB,LG,Lr,rfl,jK,eE,iT,jL⟩:=DG;obtain ⟨a3,dQ,Fu,EI,rfl,lo,fD,qA,nW⟩:=xx;rw [cu] at *;rw [bZ] at *;rw [bO] at *;unfold maxLen at hG eE fD;obtain ⟨f1,f2,f3,f4⟩:=hf;unfold RA;refine ah func127 I I ?_
 (refine Jr<|Jy I I fun _ _=>Ja I<|Ji<|Ja I<|Jn<|Jq<|Jr<|bK I I ae ?_;refine JL I .here I<|JI I<|JE I<|Jn<|gl I (fun ar=>?_) fun ar=>?_;refine Jr<|Ja I<|Jn<|Ju<|JT ?_;rotate_left;refine Jk<|Jq<|Jr<|Ja I<|Jn<|J0 ?_;rotate_right)
 ·skip
  have e:fm 8 [] Sr.nm (fun x=>fq r x.mx) r.sr=5:=by unfold fm;rw [if_pos (show (8:Int)<(r.sr.length:Int) by omega)]
  rw [WA (by rw [e];decide),e]
 rename_i b1 tR;refine aY (ι:=Nat) (fun x=>x<=r.sr.length/\∀ i,i<x->xq [] Sr.nm (fun x=>fq r x.mx) r.sr i=0) (fun x=>[(4,.int .i64 (x:Nat)),(3,.int .i64 ((x:Nat):Int)),(1,.pointer (some ⟨b1,0,none⟩))]) (fun x=>[JQ b1 r (.slice a1 r.sr.length dZ) (.slice a2 r.de.length dB) (.slice a3 r.ti.length dQ) p]) (fun x=>r.sr.length-x) ?_ ?_
 ·apply aK (0:Nat) ⟨Zi _,fun i h=>absurd h (Nat.not_lt_zero _)⟩
  case hs1=>exact cj
  case ht=>(try simp only [Ze,Zf,Za]);exact .cons .here .nil
 rintro k ⟨hk,hz⟩;by_cases aL:k<r.sr.length
 ·have cM:=kK (gL aL);obtain ⟨ir,aF⟩:=kc k _ (fk aL);unfold Sr.cells at aF;have Z4:=aF 0 _ I;have We:=aF 1 _ I;have Q9:=Q8 (k) (by omega);have hq:=Tt (r:=r) aL
  (refine Jq<|Jr<|Jv I<|bK I I ae ?_;refine JL I .here I<|JI I<|JA I<|Jn<|Jd I fun ar=>Jk<|Jq<|J0<|Jq<|Jq ?_)
  with_reducible refine cC 12 (by kernel_rfl) ?_
  (refine ak (cr .here) I ?_;refine ak jP I ?_;refine aQ aX I (fun w' aq=>(Q9 w' (Mem.keeps aq))) ?_;refine ak (cr .here) I ?_;refine ak kA I ?_;refine ak (gD .here) I ?_;refine ak jP I ?_;refine ak (gj cM ar) I ?_;refine ak kA I ?_;refine ak (ag (.of I) (At.base We I)) I ?_;refine aQ aX I (fun w' aq=>(jk _ (Mem.keeps aq))) ?_;refine dX (aB (.cons (.of I) (.cons (.of I) .nil)) I I I I) I I ?_)
  with_reducible refine cY I fun bq mA=>?_
  (refine ai bN I (fun w' aq=>(kq (Mem.df aq .here I I) (bQ.cons (bQ.cons bQ.nil)))) ?_;refine Ja I<|Ji<|Jv I<|JD I<|Jn<|gl I (fun ar=>?_) fun ar=>?_;refine Jr<|Jv I<|Ja I<|Jn<|Ju<|Jm<|Jh<|Jh<|Jm<|Jh<|JT ?_;rotate_left;refine Jk<|Jg<|Jv I<|JB I (by omega)<|Ja I<|Jx<|Jj<|Jt<|Jg<|Jv I<|JB I (by omega)<|Ja I<|Jn ?_;rotate_right)
  ·rw [hq] at ar ⊢;have hb:fm 8 [] Sr.nm (fun x=>fq r x.mx) r.sr=xq [] Sr.nm (fun x=>fq r x.mx) r.sr k:=by unfold fm;rw [if_neg (by omega)];exact eS hz aL ar
   rw [WA (by rw [hb];exact ar),hb]
  have I0:xq [] Sr.nm (fun x=>fq r x.mx) r.sr k=0:=by rw [<- hq];exact Decidable.not_not.1 ar
  apply aJ (k+1) ⟨(show k+1<=r.sr.length from aL),fun i hi=>by
   by_cases e:i=k
   ·rw [e];exact I0
   ·exact hz i (by omega)⟩ (show r.sr.length-(k+1)<r.sr.length-k by omega)
  case hs1=>exact cj
  case ht=>(try simp only [Ze,Zf,Za]);exact .cons (.there .here) .nil
 obtain rfl:k=r.sr.length:=by omega
 have z1:fm 8 [] Sr.nm (fun x=>fq r x.mx) r.sr=0:=by unfold fm;rw [if_neg (by omega)];exact dN.2 hz
 clear hk aL hz
 (refine Jq<|Jr<|Jv I<|bK I I ae ?_;refine JL I .here I<|JI I<|JA I<|Jn<|Jc I fun ar=>Jp<|Jl<|Jo<|Jt<|Jq<|Jr<|bK I I ae ?_;refine JL I .here I<|JI I<|JE I<|Jn<|gl I (fun ar=>?_) fun ar=>?_;refine Jr<|Ja I<|Jn<|Ju<|JT ?_;rotate_left;refine Jk<|Jq<|Jr<|Ja I<|Jn<|J0 ?_;rotate_right)
 ·have e:fm 8 (ct r) De.nm (fun x=>fq r x.mx) r.de=5:=by unfold fm;rw [if_pos (show (8:Int)<(r.de.length:Int) by omega)]
  rw [Wz z1 (by rw [e];decide),e]
 refine aY (ι:=Nat) (fun x=>x<=r.de.length/\∀ i,i<x->xq (ct r) De.nm (fun x=>fq r x.mx) r.de i=0) (fun x=>[(6,.int .i64 (x:Nat)),(3,.int .i64 ((r.sr.length+x:Nat):Int)),(1,.pointer (some ⟨b1,0,none⟩))]) (fun x=>[JQ b1 r (.slice a1 r.sr.length dZ) (.slice a2 r.de.length dB) (.slice a3 r.ti.length dQ) p]) (fun x=>r.de.length-x) ?_ ?_
 ·apply aK (0:Nat) ⟨Zi _,fun i h=>absurd h (Nat.not_lt_zero _)⟩
  case hs1=>exact cj
  case ht=>(try simp only [Ze,Zf,Za]);exact .cons .here .nil
 rintro k ⟨hk,hz⟩;by_cases aL:k<r.de.length
 ·have cM:=iT (gS aL);obtain ⟨ir,aF⟩:=jL k _ (fu aL);unfold De.cells at aF;have Z4:=aF 0 _ I;have We:=aF 1 _ I;have Q9:=Q8 (r.sr.length+k) (by omega);have hq:=Tu (r:=r) aL
  (refine Jq<|Jr<|Jv I<|bK I I ae ?_;refine JL I .here I<|JI I<|JA I<|Jn<|Jd I fun ar=>Jk<|Jq<|J0<|Jq<|Jq ?_)
  with_reducible refine cC 12 (by kernel_rfl) ?_
  (refine ak (cr .here) I ?_;refine ak jP I ?_;refine aQ aX I (fun w' aq=>(Q9 w' (Mem.keeps aq))) ?_;refine ak (cr .here) I ?_;refine ak kA I ?_;refine ak (gD .here) I ?_;refine ak jP I ?_;refine ak (gj cM ar) I ?_;refine ak kA I ?_;refine ak (ag (.of I) (At.base We I)) I ?_;refine aQ aX I (fun w' aq=>(jk _ (Mem.keeps aq))) ?_;refine dX (aB (.cons (.of I) (.cons (.of I) .nil)) I I I I) I I ?_)
  with_reducible refine cY I fun bq mA=>?_
  (refine ai bN I (fun w' aq=>(kq (Mem.df aq .here I I) (bQ.cons (bQ.cons bQ.nil)))) ?_;refine Ja I<|Ji<|Jv I<|JD I<|Jn<|gl I (fun ar=>?_) fun ar=>?_;refine Jr<|Jv I<|Ja I<|Jn<|Ju<|Jm<|Jh<|Jh<|Jm<|Jh<|JT ?_;rotate_left;refine Jk<|Jg<|Jv I<|JB I (by omega)<|Ja I<|Jx<|Jj<|Jt<|Jg<|Jv I<|JB I (by omega)<|Ja I<|Jn ?_;rotate_right)
  ·rw [hq] at ar ⊢;have hb:fm 8 (ct r) De.nm (fun x=>fq r x.mx) r.de=xq (ct r) De.nm (fun x=>fq r x.mx) r.de k:=by unfold fm;rw [if_neg (by omega)];exact eS hz aL ar
   rw [Wz z1 (by rw [hb];exact ar),hb]
  have I0:xq (ct r) De.nm (fun x=>fq r x.mx) r.de k=0:=by rw [<- hq];exact Decidable.not_not.1 ar
  apply aJ (k+1) ⟨(show k+1<=r.de.length from aL),fun i hi=>by
   by_cases e:i=k
   ·rw [e];exact I0
   ·exact hz i (by omega)⟩ (show r.de.length-(k+1)<r.de.length-k by omega)
  case hs1=>exact cj
  case ht=>(try simp only [Ze,Zf,Za]);exact .cons (.there .here) .nil
 obtain rfl:k=r.de.length:=by omega
 have z2:fm 8 (ct r) De.nm (fun x=>fq r x.mx) r.de=0:=by unfold fm;rw [if_neg (by omega)];exact dN.2 hz
 clear hk aL hz
 (refine Jq<|Jr<|Jv I<|bK I I ae ?_;refine JL I .here I<|JI I<|JA I<|Jn<|Jc I fun ar=>Jp<|Jl<|Jo<|Jt<|Jq<|Jr<|bK I I ae ?_;refine JL I .here I<|JI I<|JE I<|Jn<|gl I (fun ar=>?_) fun ar=>?_;refine Jr<|Ja I<|Jn<|Ju<|JT ?_;rotate_left;refine Jk<|Jq<|Jr<|Ja I<|Jn<|J0 ?_;rotate_right)
 ·have e:fm 6 (ct r++cz r) Ti.nm (n9 r) r.ti=5:=by unfold fm;rw [if_pos (show (6:Int)<(r.ti.length:Int) by omega)]
  rw [Da z1 z2,e]
 refine aY (ι:=Nat) (fun x=>x<=r.ti.length/\∀ i,i<x->xq (ct r++cz r) Ti.nm (n9 r) r.ti i=0) (fun x=>[(8,.int .i64 (x:Nat)),(3,.int .i64 (((r.sr.length+r.de.length)+x:Nat):Int)),(1,.pointer (some ⟨b1,0,none⟩))]) (fun x=>[JQ b1 r (.slice a1 r.sr.length dZ) (.slice a2 r.de.length dB) (.slice a3 r.ti.length dQ) p]) (fun x=>r.ti.length-x) ?_ ?_
 ·apply aK (0:Nat) ⟨Zi _,fun i h=>absurd h (Nat.not_lt_zero _)⟩
  case hs1=>exact cj
  case ht=>(try simp only [Ze,Zf,Za]);exact .cons .here .nil
 rintro k ⟨hk,hz⟩;by_cases aL:k<r.ti.length
 ·have cM:=qA (eO aL);obtain ⟨ir,aF⟩:=nW k _ (dY aL);unfold Ti.cells at aF;have Z4:=aF 0 _ I;have We:=aF 1 _ I;have Q9:=Q8 ((r.sr.length+r.de.length)+k) (by omega);have hq:=Ts (r:=r) aL
  (refine Jq<|Jr<|Jv I<|bK I I ae ?_;refine JL I .here I<|JI I<|JA I<|Jn<|Jd I fun ar=>Jk<|Jq<|J0<|Jr<|bK I I ae ?_;refine JL I .here I<|Jv I<|ab (gj cM ar) I ?_;refine ab (iI (eU.base aF I)) I ?_;refine Jz I I fun _ _=>au (.of I) (.of I) .here I I (fx I I I) (bF I) an ?_;refine Jn<|Jq<|Jq ?_)
  with_reducible refine cC 18 (by kernel_rfl) ?_
  (refine ak (cr (.there .here)) I ?_;refine ak jP I ?_;refine aQ aX I (fun w' aq=>(Q9 w' (Mem.keeps aq))) ?_;refine ak (cr (.there .here)) I ?_;refine ak kA I ?_;refine ak (gD .here) I ?_;refine aQ aX I (fun w' aq=>(jk _ (Mem.keeps aq))) ?_;refine ak (cr (.there .here)) I ?_;refine ak kA I ?_;refine ak (gD .here) I ?_;refine aQ aX I (fun w' aq=>(jk _ (Mem.keeps aq))) ?_;refine ak kA I ?_;refine ak (gD .here) I ?_;refine ak kA I ?_;refine ak (gD .here) I ?_;refine ak (jE (.of I) (.of I)) I ?_;refine aQ aX I (fun w' aq=>(kB _ 24 w')) ?_;refine dX (aB (.cons (.of I) (.cons (.of I) (.cons (.of I) (.cons (.of I) .nil)))) I I I I) I I ?_)
  with_reducible refine cY I fun bq mA=>?_
  (refine ai bN I (fun w' aq=>(kq (Mem.df aq .here I I) (bQ.cons (bQ.cons (bQ.cons (bQ.cons bQ.nil)))))) ?_;refine Ja I<|Ji<|Jv I<|JD I<|Jn<|gl I (fun ar=>?_) fun ar=>?_;refine Jr<|Jv I<|Ja I<|Jn<|Ju<|Jm<|Jh<|Jh<|Jm<|Jh<|JT ?_;rotate_left;refine Jk<|Jg<|Jv I<|JB I (by omega)<|Ja I<|Jx<|Jj<|Jt<|Jg<|Jv I<|JB I (by omega)<|Ja I<|Jn ?_;rotate_right)
  ·rw [hq] at ar ⊢;have hb:fm 6 (ct r++cz r) Ti.nm (n9 r) r.ti=xq (ct r++cz r) Ti.nm (n9 r) r.ti k:=by unfold fm;rw [if_neg (by omega)];exact eS hz aL ar
   rw [Da z1 z2,hb]
  have I0:xq (ct r++cz r) Ti.nm (n9 r) r.ti k=0:=by rw [<- hq];exact Decidable.not_not.1 ar
  apply aJ (k+1) ⟨(show k+1<=r.ti.length from aL),fun i hi=>by
   by_cases e:i=k
   ·rw [e];exact I0
   ·exact hz i (by omega)⟩ (show r.ti.length-(k+1)<r.ti.length-k by omega)
  case hs1=>exact cj
  case ht=>(try simp only [Ze,Zf,Za]);exact .cons bT .nil
 obtain rfl:k=r.ti.length:=by omega
 have z3:fm 6 (ct r++cz r) Ti.nm (n9 r) r.ti=0:=by unfold fm;rw [if_neg (by omega)];exact dN.2 hz
 clear hk aL hz
 (refine Jq<|Jr<|Jv I<|bK I I ae ?_;refine JL I .here I<|JI I<|JA I<|Jn<|Jc I fun ar=>Jp<|Jl<|Jo<|Jt<|Jr<|Ja I<|Jn<|Je<|JT ?_)
 rw [Da z1 z2,z3]
theorem Qo {r:Ro} {k:Nat} (h:k<r.po.length):F1 r k=if Lo r r.po[k]≠0 then Lo r r.po[k] else if 0<k/\(r.po[k].lv<((r.po[k-1]?).getD r.po[k]).lv\/r.po[k].lv=((r.po[k-1]?).getD r.po[k]).lv/\eo r r.po[k].ou<=eo r ((r.po[k-1]?).getD r.po[k]).ou) then 11 else 0:=by
 unfold F1;rw [Zc h];rfl
def GC (r:Ro) (v:Int) (x:Ti):Bool:=decide ((px r.po v 8 x.nm).length=8)
def EK (r:Ro) (v:Int) (x:Ti):Bool:=nZ r.po v x.nm != !decide ((ep r.po v x.nm).getD ⟨#[]⟩=⟨#[]⟩)
theorem MI (r:Ro):Tv r=if j7 r (fun v=>r.ti.any (GC r v)) then 33 else if j7 r (fun v=>r.ti.any (EK r v)) then 32 else 0:=rfl
theorem Cp {r:Ro} {q:Int->Ti->Bool} {v i:Nat} (hv:(v:Int)<r.lv) (hi:i<r.ti.length) (h:q v r.ti[i]=true):j7 r (fun v=>r.ti.any (q v))=true:=by
 unfold j7;exact List.any_eq_true.2 ⟨v,List.mem_range.2 (by omega),List.any_eq_true.2 ⟨_,Zj hi,h⟩⟩
theorem ze {r:Ro} {q:Int->Ti->Bool} (h:∀ v:Nat,v<r.lv.toNat->∀ (i:Nat) (hi:i<r.ti.length),q v r.ti[i]=false):j7 r (fun v=>r.ti.any (q v))=false:=by
 refine lD.2 fun v h0 h1=>List.any_eq_false.2 fun x hx=>?_;obtain ⟨i,hi,rfl⟩:=List.getElem_of_mem hx;have:=h v.toNat (by omega) i hi;rw [show ((v.toNat:Nat):Int)=v by omega] at this;rw [this];decide
set_option maxHeartbeats 2000000 in
theorem xH {r:Ro} {s d t p:Value} {w:World} (h:RR w r s d t p) (hf:nP r) (adp:1<=r.lv/\r.lv<=3):aj T_ 128 [RA r s d t p] w (.int .i64 (zP r)):=by
 obtain ⟨h1,h2,h3,h4⟩:=h.one;have Rf:∀ (o:ByteArray) {w'},aD [] w w'->aj T_ 230 [.agg #[.int .i64 r.lv,.int .i64 r.ma,s,d,t,p],.string o] w' (.int .i64 (eo r o)):=fun o _ hk=>MR o (h.keeps hk) hf
 have Ut:∀ (o:ByteArray) {w'},aD [] w w'->aj T_ 231 [.agg #[.int .i64 r.lv,.int .i64 r.ma,s,d,t,p],.string o] w' (.int .i64 (jR r o)):=fun o _ hk=>Nf o (h.keeps hk)
 have Xq:∀ (o:ByteArray) {w'},aD [] w w'->aj T_ 232 [.agg #[.int .i64 r.lv,.int .i64 r.ma,s,d,t,p],.string o] w' (.int .i64 (j9 r o)):=fun o _ hk=>Ik o (h.keeps hk)
 have WX:∀ (v:Int) (o:ByteArray) {w'},aD [] w w'->aj T_ 233 [.agg #[.int .i64 r.lv,.int .i64 r.ma,s,d,t,p],.int .i64 v,.string o] w' (.bool (nZ r.po v o)):=fun v o _ hk=>P1 v o (h.keeps hk)
 have xA:∀ (v:Int) (o:ByteArray) {w'},aD [] w w'->aj T_ 133 [.agg #[.int .i64 r.lv,.int .i64 r.ma,s,d,t,p],.int .i64 v,.string o] w' (.string ((ep r.po v o).getD ⟨#[]⟩)):=fun v o _ hk=>rO v o (h.keeps hk)
 have Rw:∀ (v:Int) (o:ByteArray) w',aD [] w w'->bh T_ 132 [.agg #[.int .i64 r.lv,.int .i64 r.ma,s,d,t,p],.int .i64 v,.string o,.int .i64 8] w' [] (fun _:Option Addr×Nat=>True) (fun z=>.slice z.1 (px r.po v 8 o).length z.2) (fun z=>[row 9 1 (.slice z.1 (px r.po v 8 o).length z.2) (px r.po v 8 o).length (aM (px r.po v 8 o))]):=fun v o w' hk=>bh.HM (val:=id) (Fq v o 8 (by decide) (h.keeps hk))
 have JM:=h.po;have xx:=h.ti;obtain ⟨a4,e9,PF,Lq,rfl,tO,km,CE,vZ⟩:=JM;obtain ⟨a3,dQ,Fu,EI,rfl,lo,fD,qA,nW⟩:=xx;rw [cT] at *;rw [bO] at *;unfold maxLen at fD km;obtain ⟨f1,f2,f3,f4⟩:=hf;unfold RA;refine ah func128 I I ?_;refine Jr<|Jy I I fun _ _=>Ja I<|Jn<|Jq<|Jr<|Ja I<|Jn<|J0 ?_;rename_i b1 tR;refine aY (ι:=Nat) (fun x=>x<=r.po.length/\∀ i,i<x->F1 r i=0) (fun x=>[(3,.int .i64 (x:Nat)),(1,.pointer (some ⟨b1,0,none⟩))]) (fun x=>[JQ b1 r s d (.slice a3 r.ti.length dQ) (.slice a4 r.po.length e9)]) (fun x=>r.po.length-x) ?_ ?_
 ·apply aK (0:Nat) ⟨Zi _,fun i h=>absurd h (Nat.not_lt_zero _)⟩
  case hs1=>exact cj
  case ht=>(try simp only [Ze,Zf,Za]);exact .cons .here .nil
 rintro k ⟨hk,hz⟩;by_cases aL:k<r.po.length
 ·have cM:=CE (kD aL);obtain ⟨ir,aF⟩:=vZ k _ (iN aL);unfold Po.cells at aF;have ja:=Qo (r:=r) aL;have SM:∀ e:Int,F1 r k=e->e≠0->zP r=e:=fun e he hne=>by
   have hb:jq (F1 r) r.po.length=e:=by rw [<- he];exact eS hz aL (by rw [he];exact hne)
   unfold zP;rw [hb,if_pos hne]
  have kl:F1 r k=0->∀ i,i<k+1->F1 r i=0:=fun e i hi=>by
   by_cases e2:i=k
   ·rw [e2];exact e
   ·exact hz i (by omega)
  generalize hx:r.po[k]=x at aF ja
  (refine Jq<|Jr<|Jv I<|bK I I ae ?_;refine JL I .here I<|JI I<|JA I<|Jn<|Jd I fun ar=>Jk<|Jq<|J0<|Jr<|bK I I ae ?_;refine JL I .here I<|Jv I<|ab (gj cM ar) I ?_;refine ab (iI (eU.base aF I)) I ?_;refine Jz I I fun _ _=>au (.of I) (.of I) .here I I (fx I I I) (bF I) an ?_;refine Jn<|Jq<|Jq ?_)
  with_reducible refine cC 29 (by kernel_rfl) ?_
  (refine ak kA I ?_;refine ak (gD .here) I ?_;refine ak kA I ?_;refine ak (gD (.there .here)) I ?_;refine ak (sD (.of I) (.of I) (QO (by omega))) I ?_;refine aQ dH I (fun w' aq=>(uE _ 0 _ w')) ?_;refine ak (cr (.there .here)) I ?_;refine ak kA I ?_;refine ak (gD .here) I ?_;refine aQ aX I (fun w' aq=>(Rf _ (Mem.keeps aq))) ?_;refine ak (mm (.of I) (.of I)) I ?_;refine aQ aX I (fun w' aq=>(kB _ 10 w')) ?_;refine ak (cr (.there .here)) I ?_;refine ak kA I ?_;refine ak (gD .here) I ?_;refine aQ aX I (fun w' aq=>(Ut _ (Mem.keeps aq))) ?_;refine ak (mm (.of I) (.of I)) I ?_;refine aQ aX I (fun w' aq=>(kB _ 10 w')) ?_;refine ak (cr (.there .here)) I ?_;refine ak kA I ?_;refine ak (gD .here) I ?_;refine aQ aX I (fun w' aq=>(Xq _ (Mem.keeps aq))) ?_;refine ak (cr (.there .here)) I ?_;refine ak kA I ?_;refine ak (gD .here) I ?_;refine aQ aX I (fun w' aq=>(Ut _ (Mem.keeps aq))) ?_;refine ak (fZ (.of I) (.of I)) I ?_;refine aQ aX I (fun w' aq=>(kB _ 24 w')) ?_;refine dX (aB (.cons (.of I) (.cons (.of I) (.cons (.of I) (.cons (.of I) .nil)))) I I I I) I I ?_)
  with_reducible refine cY I fun bq mA=>?_
  (refine ai bN I (fun w' aq=>(kq (Mem.df aq .here I I) (bQ.cons (bQ.cons (bQ.cons (bQ.cons bQ.nil)))))) ?_;refine Ja I<|Ji<|Jv I<|JD I<|Jn<|gl I (fun ar=>?_) fun ar=>?_;refine Jr<|Jv I<|Ja I<|Jn<|Ju<|Jm<|Jh<|Jh<|Jm<|Jh<|JT ?_;rotate_left;refine Jk<|Jr<|Jv I<|JE I<|Jn<|gl I (fun ar=>?_) fun ar=>?_;refine Jr<|bK I I ae ?_;refine JL I bT I<|Jv I<|JS I (by omega)<|ab (az (.of I) (.of I) cM (by omega) (by omega) ba) I ?_;rotate_left;refine Jw<|Jj<|Jt<|Jg<|Jv I<|JB I (by omega)<|Ja I<|Jn ?_;rotate_right;rotate_right)
  ·have e:=SM (Lo r x) (by rw [ja,if_pos (show Lo r x≠0 from ar)]) ar;rw [e];rfl
  ·rename_i b4 uQ hE;have hE:Lo r x=0:=Decidable.not_not.1 hE;have vU:0<k:=by omega
   have SF:k-1<r.po.length:=by omega
   obtain ⟨Y8,eB⟩:=vZ (k-1) _ (iN SF);unfold Po.cells at eB;rw [show Lq+(k-1)*3=Lq+((k:Int)-1).toNat*3 by rw [show ((k:Int)-1).toNat=k-1 by omega]] at eB;rw [if_neg (not_not_intro hE),Zc SF,Option.getD_some] at ja;generalize r.po[k-1]=y at eB ja
   (refine ab (iI (eU.base eB I)) I ?_;refine Jz I I fun _ _=>au (.of I) (.of I) .here I I (fx I I I) (bF I) an ?_;refine Jn<|Jq ?_)
   with_reducible refine cW 23 (by kernel_rfl) ?_
   (refine mG I I ae ?_;refine aA (gD bT) I ?_;refine mG I I ae ?_;refine aA (gD .here) I ?_;refine aA (mm (.of I) (.of I)) I ?_;refine iv I I ?_;refine dR I I inferInstance (fun hg br=>(ao (.of I) ae)) I ?_;refine dR I I inferInstance (fun hg br=>(ag (.bL hg I) (At.lit bT I))) I ?_;refine dR I I inferInstance (fun hg br=>(ao (.of I) ae)) I ?_;refine dR I I inferInstance (fun hg br=>(ag (.bL hg I) (At.lit .here I))) I ?_;refine dR I I inferInstance (fun hg br=>(jE (.bL hg I) (.bL hg I))) I ?_;refine dR I I inferInstance (fun hg br=>(aZ (.bL hg I))) I ?_;refine q7 I I inferInstance (fun hg br=>(cm (.of I) db an (by rfl))) I ?_;refine q7 I I inferInstance (fun hg br=>(ao (.of I) ae)) I ?_;refine q7 I I inferInstance (fun hg br=>(ag (.bL hg I) (At.lit bT I))) I ?_;refine tg I I (fun hg=>(bj (.of I) (.cons (.bL hg I) (.cons (.bL hg I) .nil)) inferInstance fL)) I (fun hg w' aq=>(Rf _ (Mem.keeps aq))) ?_;refine q7 I I inferInstance (fun hg br=>(cm (.of I) db an (by rfl))) I ?_;refine q7 I I inferInstance (fun hg br=>(ao (.of I) ae)) I ?_;refine q7 I I inferInstance (fun hg br=>(ag (.bL hg I) (At.lit .here I))) I ?_;refine tg I I (fun hg=>(bj (.of I) (.cons (.bL hg I) (.cons (.bL hg I) .nil)) inferInstance fL)) I (fun hg w' aq=>(Rf _ (Mem.keeps aq))) ?_;refine q7 I I inferInstance (fun hg br=>(lh (.bL hg I) (.bL hg I))) I ?_;refine dR I I inferInstance (fun hg br=>(gM hg (.bL hg I) I)) I ?_;refine aA (bX (.of I) I) I ?_)
   with_reducible refine cZ ?_
   (refine Jn<|oz I (fun ar=>?_) fun ar=>?_;refine Jr<|Ja I<|Jn<|Je<|Jm<|Jh<|Jh<|Jm<|Jh<|JT ?_;rotate_left;refine Jw<|Jj<|Jt<|Jg<|Jv I<|JB I (by omega)<|Ja I<|Jn ?_;rotate_right)
   ·have hE2:0<k/\(x.lv<y.lv\/x.lv=y.lv/\eo r x.ou<=eo r y.ou):=⟨vU,ar⟩;have e:=SM 11 (by rw [ja,if_pos hE2]) (by decide);rw [e]
   ·apply aJ (k+1) ⟨(show k+1<=r.po.length from aL),kl (by rw [ja,if_neg (fun q=>q.2.elim ar.1 fun z=>ar.2.elim (fun z2=>z2 z.1) fun z2=>z2 z.2)])⟩ (show r.po.length-(k+1)<r.po.length-k by omega)
    case hs1=>exact cj
    case ht=>(try simp only [Ze,Zf,Za]);exact .cons db .nil
  ·rename_i b4 uQ hE;have hE:Lo r x=0:=Decidable.not_not.1 hE;apply aJ (k+1) ⟨(show k+1<=r.po.length from aL),kl (by rw [ja,if_neg (not_not_intro hE),if_neg (fun q=>ar (by omega))])⟩ (show r.po.length-(k+1)<r.po.length-k by omega)
   case hs1=>exact cj
   case ht=>(try simp only [Ze,Zf,Za]);exact .cons bT .nil
 obtain rfl:k=r.po.length:=by omega
 have VE:jq (F1 r) r.po.length=0:=dN.2 hz;have hqs:zP r=Tv r:=by unfold zP;rw [VE];rfl
 rw [hqs,MI];clear hk aL hz
 (refine Jq<|Jr<|Jv I<|bK I I ae ?_;refine JL I .here I<|JI I<|JA I<|Jn<|Jc I fun ar=>Jp<|Jl<|Jo<|Jt<|Jq<|Jr<|Ja I<|Jn<|J0 ?_)
 refine aY (ι:=Nat) (fun v=>v<=r.lv.toNat/\∀ u,u<v->∀ (i:Nat) (hi:i<r.ti.length),GC r (u:Nat) r.ti[i]=false) (fun v=>[(7,.int .i64 (v:Nat)),(1,.pointer (some ⟨b1,0,none⟩))]) (fun _=>[JQ b1 r s d (.slice a3 r.ti.length dQ) (.slice a4 r.po.length e9)]) (fun v=>r.lv.toNat-v) ?_ ?_
 ·apply aK (0:Nat) ⟨Zi _,fun i h=>absurd h (Nat.not_lt_zero _)⟩
  case hs1=>exact cj
  case ht=>(try simp only [Ze,Zf,Za]);exact .cons .here .nil
 rintro v ⟨hv,hz⟩;by_cases Lx:v<r.lv.toNat
 ·have QU:((v:Nat):Int)<r.lv:=by omega
  (refine Jq<|Jr<|Jv I<|bK I I ae ?_;refine JL I .here I<|JA I<|Jn<|Jd I fun ar=>Jk<|Jq<|J0<|Jr<|Ja I<|Jn<|J0 ?_)
  refine aY (ι:=Nat) (fun i=>i<=r.ti.length/\∀ (j:Nat) (hj:j<r.ti.length),j<i->GC r (v:Nat) r.ti[j]=false) (fun i=>[(8,.int .i64 (i:Nat)),(7,.int .i64 (v:Nat)),(1,.pointer (some ⟨b1,0,none⟩))]) (fun _=>[JQ b1 r s d (.slice a3 r.ti.length dQ) (.slice a4 r.po.length e9)]) (fun i=>r.ti.length-i) ?_ ?_
  ·apply aK (0:Nat) ⟨Zi _,fun j _ h=>absurd h (Nat.not_lt_zero _)⟩
   case hs1=>exact cj
   case ht=>(try simp only [Ze,Zf,Za]);exact .cons .here .nil
  rintro i ⟨hi,hy⟩;by_cases il:i<r.ti.length
  ·have cM:=qA (eO il);have c0:w.cell? ⟨Fu,EI+i*3,none⟩=some (.string r.ti[i].nm):=(nW i _ (dY il)).2 0 _ I;have Xg:∀ b,GC r (v:Nat) r.ti[i]=b->GC r (v:Nat) r.ti[i]=b:=fun _ h=>h
   unfold GC at Xg;have kl:GC r (v:Nat) r.ti[i]=false->∀ (j:Nat) (hj:j<r.ti.length),j<i+1->GC r (v:Nat) r.ti[j]=false:=fun e j hj kT=>by
    by_cases e2:j=i
    ·subst e2;exact e
    ·exact hy j hj (by omega)
   have Rn:GC r (v:Nat) r.ti[i]=true->j7 r (fun v=>r.ti.any (GC r v))=true:=Cp QU il
   generalize WW:r.ti[i].nm=x at c0
   (refine Jq<|Jr<|Jv I<|bK I I ae ?_;refine JL I .here I<|JI I<|JA I<|Jn<|Jd I fun ar=>Jk<|Jq<|J0<|Jq ?_)
   have UC:=Rw (v:Nat) x;have SC:=Az r.po (v:Nat) 8 x;have UB:GC r (v:Nat) r.ti[i]=decide ((px r.po (v:Nat) 8 x).length=8):=by unfold GC;rw [WW]
   generalize px r.po (v:Nat) 8 x=C at UC SC UB
   with_reducible refine fc 9 (by kernel_rfl) ?_
   (refine aH (fun β=>(cm (.of I) .here an (by rfl))) bM I ?_;refine aH (fun β=>(aZ (.of I))) bM I ?_;refine aH (fun β=>(ao (.of I) ae)) bM I ?_;refine aH (fun β=>(ag (.of I) (At.lit .here I))) bM I ?_;refine aH (fun β=>(aZ (.of I))) bM I ?_;refine aH (fun β=>(az (.of I) (.of I) cM (by omega) ar ba)) bM I ?_;refine aH (fun β=>(ao (.of I) ae)) bM I ?_;refine aH (fun β=>(ag (.of I) (At.base c0 I))) bM I ?_)
   dsimp only [Nat.zero_add,Nat.reduceAdd]
   with_reducible apply im (ι:=Option Addr×Nat) (Φ:=fun _=>True) (val:=fun z=>.slice z.1 C.length z.2) (own:=fun z=>[row 9 1 (.slice z.1 C.length z.2) C.length (aM C)]) (g:=UO) (B:=[]) (args:=fun _=>[.agg #[.int .i64 r.lv,.int .i64 r.ma,s,d,.slice a3 r.ti.length dQ,.slice a4 r.po.length e9],.int .i64 (v:Nat),.string x,.int .i64 8])
   case hg=>exact Kk
   case hB=>rfl
   case hr=>exact fun β=>bj (.of I) (.cons (.of I) (.cons (.of I) (.cons (.of I) (.cons (.of I) .nil)))) inferInstance I
   case hd=>rfl
   case hc=>exact fun β w' hb=>UC w' hb.mem.keeps
   dsimp only [Nat.reduceAdd];refine ic fun β=>?_;dsimp only [fK,Za,Zb,List.append_eq,Nat.reduceAdd];generalize UO (β 8)=y;obtain ⟨ya,yc⟩:=y;clear β;dsimp only;refine cU (rs:=[9]) (by kernel_rfl) (by simp) (List.forall_mem_cons.2 ⟨?_,fun _ h=>absurd h List.not_mem_nil⟩);refine dj I ?_;refine JI I<|Jn ?_;refine cU (rs:=[10]) (by kernel_rfl) (by simp) (List.forall_mem_cons.2 ⟨?_,fun _ h=>absurd h List.not_mem_nil⟩);refine dj I ?_;refine JC I<|Jn ?_
   with_reducible refine dp (by kernel_rfl) ?_
   (refine Jt<|gl I (fun ar=>?_) fun ar=>?_;refine Jr<|Ja I<|Jn<|Je<|Jm<|Jh<|Jh<|Jm<|Jm<|Jh<|Jh<|Jm<|Jh<|JT ?_;rotate_left;refine Jw<|Jj<|Jt<|Jg<|Jv I<|JB I (by omega)<|Ja I<|Jn ?_;rotate_right)
   ·rw [if_pos (Rn (by rw [UB];exact decide_eq_true (by omega)))]
   apply aJ (i+1) ⟨(show i+1<=r.ti.length from il),kl (by rw [UB];exact decide_eq_false (by omega))⟩ (show r.ti.length-(i+1)<r.ti.length-i by omega)
   case hs1=>exact cj
   case ht=>(try simp only [Ze,Zf,Za]);exact .cons (.there .here) .nil
  obtain rfl:i=r.ti.length:=by omega
  clear hi il
  (refine Jq<|Jr<|Jv I<|bK I I ae ?_;refine JL I .here I<|JI I<|JA I<|Jn<|Jc I fun ar=>Jp<|Jl<|Jo<|Jj<|Jt<|Jg<|Jv I<|JB I (by omega)<|Ja I<|Jn ?_)
  apply aJ (v+1) ⟨(show v+1<=r.lv.toNat from Lx),fun u hu j hj=>by
   by_cases e2:u=v
   ·subst e2;exact hy j hj hj
   ·exact hz u (by omega) j hj⟩ (show r.lv.toNat-(v+1)<r.lv.toNat-v by omega)
  case hs1=>exact cj
  case ht=>(try simp only [Ze,Zf,Za]);exact .cons .here .nil
 obtain rfl:v=r.lv.toNat:=by omega
 have aS:j7 r (fun v=>r.ti.any (GC r v))=false:=ze hz
 clear hv Lx hz
 (refine Jq<|Jr<|Jv I<|bK I I ae ?_;refine JL I .here I<|JA I<|Jn<|Jc I fun ar=>Jp<|Jl<|Jo<|Jt<|Jq<|Jr<|Ja I<|Jn<|J0 ?_)
 rw [if_neg (by rw [aS];decide)];refine aY (ι:=Nat) (fun v=>v<=r.lv.toNat/\∀ u,u<v->∀ (i:Nat) (hi:i<r.ti.length),EK r (u:Nat) r.ti[i]=false) (fun v=>[(9,.int .i64 (v:Nat)),(1,.pointer (some ⟨b1,0,none⟩))]) (fun _=>[JQ b1 r s d (.slice a3 r.ti.length dQ) (.slice a4 r.po.length e9)]) (fun v=>r.lv.toNat-v) ?_ ?_
 ·apply aK (0:Nat) ⟨Zi _,fun i h=>absurd h (Nat.not_lt_zero _)⟩
  case hs1=>exact cj
  case ht=>(try simp only [Ze,Zf,Za]);exact .cons .here .nil
 rintro v ⟨hv,hz⟩;by_cases Lx:v<r.lv.toNat
 ·have QU:((v:Nat):Int)<r.lv:=by omega
  (refine Jq<|Jr<|Jv I<|bK I I ae ?_;refine JL I .here I<|JA I<|Jn<|Jd I fun ar=>Jk<|Jq<|J0<|Jr<|Ja I<|Jn<|J0 ?_)
  refine aY (ι:=Nat) (fun i=>i<=r.ti.length/\∀ (j:Nat) (hj:j<r.ti.length),j<i->EK r (v:Nat) r.ti[j]=false) (fun i=>[(10,.int .i64 (i:Nat)),(9,.int .i64 (v:Nat)),(1,.pointer (some ⟨b1,0,none⟩))]) (fun _=>[JQ b1 r s d (.slice a3 r.ti.length dQ) (.slice a4 r.po.length e9)]) (fun i=>r.ti.length-i) ?_ ?_
  ·apply aK (0:Nat) ⟨Zi _,fun j _ h=>absurd h (Nat.not_lt_zero _)⟩
   case hs1=>exact cj
   case ht=>(try simp only [Ze,Zf,Za]);exact .cons .here .nil
  rintro i ⟨hi,hy⟩;by_cases il:i<r.ti.length
  ·have cM:=qA (eO il);have c0:w.cell? ⟨Fu,EI+i*3,none⟩=some (.string r.ti[i].nm):=(nW i _ (dY il)).2 0 _ I;have Xg:∀ b,EK r (v:Nat) r.ti[i]=b->EK r (v:Nat) r.ti[i]=b:=fun _ h=>h
   unfold EK at Xg;have kl:EK r (v:Nat) r.ti[i]=false->∀ (j:Nat) (hj:j<r.ti.length),j<i+1->EK r (v:Nat) r.ti[j]=false:=fun e j hj kT=>by
    by_cases e2:j=i
    ·subst e2;exact e
    ·exact hy j hj (by omega)
   have Rn:EK r (v:Nat) r.ti[i]=true->j7 r (fun v=>r.ti.any (EK r v))=true:=Cp QU il
   generalize WW:r.ti[i].nm=x at c0
   (refine Jq<|Jr<|Jv I<|bK I I ae ?_;refine JL I .here I<|JI I<|JA I<|Jn<|Jd I fun ar=>Jk<|Jq<|J0<|Jr<|bK I I ae ?_;refine JL I .here I<|Jv I<|ab (gj cM ar) I ?_;refine bK I I ae ?_;refine ab (ag (.of I) (At.base c0 I)) I ?_;refine Ja I<|Jn<|Jq ?_)
   have Xr:EK r (v:Nat) r.ti[i]=(nZ r.po (v:Nat) x != !decide ((ep r.po (v:Nat) x).getD ⟨#[]⟩=⟨#[]⟩)):=by unfold EK;rw [WW]
   have Ud:EK r (v:Nat) r.ti[i]=(nZ r.po (v:Nat) x != decide ((ep r.po (v:Nat) x).getD ⟨#[]⟩≠⟨#[]⟩)):=by rw [Xr,decide_not]
   with_reducible refine cW 9 (by kernel_rfl) ?_
   (refine aA (cr .here) I ?_;refine iv I I ?_;refine iv I I ?_;refine c6 dH I (fun w' aq=>(WX _ x (Mem.keeps aq))) ?_;refine aA (cr .here) I ?_;refine iv I I ?_;refine iv I I ?_;refine c6 dH I (fun w' aq=>(xA _ x (Mem.keeps aq))) ?_;refine aA (ig (.of I) (.of I)) I ?_)
   with_reducible refine cZ ?_
   skip
   refine ab (Bt (.of I) (.of I)) I ?_
   (refine Jn<|oz I (fun ar=>?_) fun ar=>?_;refine Jr<|Ja I<|Jn<|Je<|Jm<|Jh<|Jh<|Jm<|Jm<|Jh<|Jh<|Jm<|Jh<|JT ?_;rotate_left;refine Jw<|Jj<|Jt<|Jg<|Jv I<|JB I (by omega)<|Ja I<|Jn ?_;rotate_right)
   ·rw [if_pos (Rn (by rw [Ud];exact ar))]
   apply aJ (i+1) ⟨(show i+1<=r.ti.length from il),kl (by rw [Ud];exact ar)⟩ (show r.ti.length-(i+1)<r.ti.length-i by omega)
   case hs1=>exact cj
   case ht=>(try simp only [Ze,Zf,Za]);exact .cons .here .nil
  obtain rfl:i=r.ti.length:=by omega
  clear hi il
  (refine Jq<|Jr<|Jv I<|bK I I ae ?_;refine JL I .here I<|JI I<|JA I<|Jn<|Jc I fun ar=>Jp<|Jl<|Jo<|Jj<|Jt<|Jg<|Jv I<|JB I (by omega)<|Ja I<|Jn ?_)
  apply aJ (v+1) ⟨(show v+1<=r.lv.toNat from Lx),fun u hu j hj=>by
   by_cases e2:u=v
   ·subst e2;exact hy j hj hj
   ·exact hz u (by omega) j hj⟩ (show r.lv.toNat-(v+1)<r.lv.toNat-v by omega)
  case hs1=>exact cj
  case ht=>(try simp only [Ze,Zf,Za]);exact .cons .here .nil
 obtain rfl:v=r.lv.toNat:=by omega
 have k9:j7 r (fun v=>r.ti.any (EK r v))=false:=ze hz
 clear hv Lx hz
 (refine Jq<|Jr<|Jv I<|bK I I ae ?_;refine JL I .here I<|JA I<|Jn<|Jc I fun ar=>Jp<|Jl<|Jo<|Jt<|Jr<|Ja I<|Jn<|Je<|JT ?_)
 rw [if_neg (by rw [k9];decide)]
theorem xG {r:Ro} {s d t p:Value} {w:World} (h:RR w r s d t p) (hf:nP r):aj T_ 25 [RA r s d t p] w (.int .i64 (gB r)):=by
 obtain ⟨h1,h2,h3,h4⟩:=h.one;have hcp:∀ {w'},aD [] w w'->aj T_ 127 [.agg #[.int .i64 r.lv,.int .i64 r.ma,s,d,t,p]] w' (.int .i64 (j4 r)):=fun hk=>Aw (h.keeps hk) hf
 have X9:nD r=0->∀ {w'},aD [] w w'->aj T_ 128 [.agg #[.int .i64 r.lv,.int .i64 r.ma,s,d,t,p]] w' (.int .i64 (zP r)):=fun e _ hk=>xH (h.keeps hk) hf ⟨(vG e).1,(vG e).2.1⟩
 rw [<- R9];unfold RA YJ;refine ah func25 I I ?_;refine Jr<|Jy I I fun _ _=>Ja I<|Jn<|Jq<|Jq ?_
 with_reducible refine cC 7 (by kernel_rfl) ?_
 (refine ak kA I ?_;refine ak (gD .here) I ?_;refine aQ dH I (fun w' aq=>(uE _ 1 3 w')) ?_;refine ak kA I ?_;refine ak (gD .here) I ?_;refine aQ dH I (fun w' aq=>(uE _ 1 4 w')) ?_;refine dX (aB (.cons (.of I) (.cons (.of I) .nil)) I I I I) I I ?_)
 with_reducible refine cY I fun bq mA=>?_
 refine ai bN I (fun w' aq=>kq (Mem.df aq .here I I) (bQ.cons (bQ.cons bQ.nil))) ?_;have hlE:nD r=aV [gH r.lv 1 3,gH r.ma 1 4]:=rfl;rw [<- hlE]
 (refine Ja I<|Ji<|Jv I<|JD I<|Jn<|gl I (fun ar=>?_) fun ar=>?_;refine Jr<|Jv I<|Ja I<|Jn<|Ju<|JT ?_;rotate_left;refine Jk<|Jq<|Jr<|ab (cr (.there .here)) I ?_;rotate_right)
 ·rw [if_pos ar]
 have hl:nD r=0:=Decidable.not_not.1 ar;have SJ:=fun {w'}=>X9 hl (w':=w')
 rw [if_neg (not_not_intro hl)]
 (refine ai bN I (fun w' aq=>(hcp (Mem.keeps aq))) ?_;refine Ja I<|Ji<|Jv I<|JD I<|Jn<|gl I (fun ar=>?_) fun ar=>?_;refine Jr<|Jv I<|Ja I<|Jn<|Ju<|JT ?_;rotate_left;refine Jk<|Jr<|ab (cr (.there .here)) I ?_;refine ai bN I (fun w' aq=>(SJ (Mem.keeps aq))) ?_;refine Ja I<|Jn<|Je<|JT ?_;rotate_right)
 ·rw [if_pos ar]
 rw [if_neg ar]
def FT (l:List ByteArray):Bool:=l.all fun s=>decide (s.size<=40)
theorem Bg {lv:Value} {l:List ByteArray} {w:World} (h:Rd w lv 1 (fG l)):aj T_ 69 [lv] w (.bool (FT l)):=by
 obtain ⟨a,cp,b,o',rfl,c8,bV,ha,hc⟩:=h;rw [bA] at *;unfold maxLen at bV;refine ah func69 I I ?_;refine Jr<|Ja I<|Jn<|Jq<|Jr<|Ja I<|Jn<|J0 ?_;refine aY (ι:=Nat) (fun k=>k<=l.length/\∀ j (hj:j<l.length),j<k->l[j].size<=40) (fun k=>[(3,.int .i64 (k:Nat)),(0,.slice a l.length cp)]) (fun _=>[]) (fun k=>l.length-k) ?_ ?_
 ·apply aK (0:Nat) ⟨Zi _,fun j _ hj=>absurd hj (Nat.not_lt_zero _)⟩
  case hs1=>exact cj
  case ht=>(try simp only [Ze,Zf,Za]);exact .nil
 rintro k ⟨hk,hf⟩;by_cases aL:k<l.length
 ·have cM:=ha (iy aL);have c0:w.cell? ⟨b,o'+k*1,none⟩=some (.string l[k]):=(hc k _ (fF aL)).2 0 _ I;have hm:=Zj aL;have AP:l[k].size<=40->∀ j (hj:j<l.length),j<k+1->l[j].size<=40:=fun q j hj VX=>by
   by_cases e:j=k
   ·subst e;exact q
   ·exact hf j hj (by omega)
  generalize l[k]=x at c0 hm AP
  (refine Jq<|Jr<|Jv I<|Jv I<|JI I<|JA I<|Jn<|Jd I fun ar=>Jk<|Jq<|J0<|Jr<|Jv I<|Jv I<|ab (gj cM ar) I ?_;refine ab (ag (.of I) (At.base c0 I)) I ?_;refine ab (fv (.of I)) I ?_;refine JE I<|Jn<|gl I (fun ar=>?_) fun ar=>?_;refine Jr<|Ja I<|Jn<|Je<|Jm<|Jh<|Jh<|Jm<|Jh<|JT ?_;rotate_left;refine Jw<|Jj<|Jt<|Jg<|Jv I<|JB I (by omega)<|Ja I<|Jn ?_;rotate_right)
  ·have tH:(40:Int)<(x.size:Nat):=ar;have e:FT l=false:=List.all_eq_false.2 ⟨x,hm,by simp;omega⟩;rw [e]
  ·have tH:¬ (40:Int)<(x.size:Nat):=ar;apply aJ (k+1) ⟨(show k+1<=l.length from aL),AP (by omega)⟩ (show l.length-(k+1)<l.length-k by omega)
   case hs1=>exact cj
   case ht=>(try simp only [Ze,Zf,Za]);exact .nil
 ·have e:FT l=true:=List.all_eq_true.2 fun x hx=>by
   obtain ⟨j,hj,rfl⟩:=List.getElem_of_mem hx;exact decide_eq_true (hf j hj (by omega))
  obtain rfl:k=l.length:=by omega
  rw [e];refine Jq<|Jr<|Jv I<|Jv I<|JI I<|JA I<|Jn<|Jc I fun ar=>Jp<|Jl<|Jo<|Jt<|Jr<|Ja I<|Jn<|Je<|JT ?_
  rfl
def Vl (so de:ByteArray):Bool:=decide ((so.size:Int)<=40)&&decide ((de.size:Int)<=40)
theorem D6 (v:Int) (so de:ByteArray) (w:World):aj T_ 19 [.agg #[.int .i64 v,.string so,.string de]] w (.bool (Vl so de)):=by
 refine ah func19 I I ?_
 (refine Jr<|Jy I I fun _ _=>Ja I<|Ji<|bK I I ae ?_;refine JL I .here I<|ab (fv (.of I)) I ?_;refine JF I<|Jv I<|aC I I inferInstance (fun hg br=>(ao (.of I) ae)) I ?_;refine aC I I inferInstance (fun hg br=>(ag (.bL hg I) (At.lit .here I))) I ?_;refine aC I I inferInstance (fun hg br=>(fv (.bL hg I))) I ?_;refine aC I I inferInstance (fun hg br=>(lh (.bL hg I) (.of I))) I ?_;refine ab (bH (.of I) I) I ?_;refine Ja I<|Jn<|Je<|JT ?_)
 rfl
def QE (l1 l2:List ByteArray) (e bad:Int):Bool:=decide (e=bad)&&((decide (bad≠0)&&decide ((l1.length:Int)=0))||(decide (bad=0)&&decide (l1=l2)))
theorem MZ {v1 v2:Value} {l1 l2:List ByteArray} {e bad:Int} {w:World} (h1:Rd w v1 1 (fG l1)) (h2:Rd w v2 1 (fG l2)):aj T_ 35 [v1,.int .i64 e,.int .i64 bad,v2] w (.bool (QE l1 l2 e bad)):=by
 have xD:=h1;obtain ⟨a,cap,b,o,rfl,c8,bV,ha,hc⟩:=xD;have Rl:=bA l1;refine ah func35 I I ?_
 (refine Jr<|Ja I<|Ji<|Jv I<|Jv I<|JC I<|Jv I<|fM I I I I ?_;refine aC I I inferInstance (fun hg br=>(fZ (.bL hg I) (.of I))) I ?_;refine aC I I inferInstance (fun hg br=>(aZ (.bL hg I))) I ?_;refine ek I I inferInstance (fun hg br=>(aZ (.of I))) I ?_;refine ek I I inferInstance (fun hg br=>(cg (.bL hg I))) I ?_;refine ek I I inferInstance (fun hg br=>(jE (.bL hg I) (.of I))) I ?_;refine aC I I inferInstance (fun hg br=>(gM hg (.bL hg I) I)) I ?_;refine aC I I inferInstance (fun hg br=>(aZ (.bL hg I))) I ?_;refine ek I I inferInstance (fun hg br=>(aZ (.of I))) I ?_;refine ek I I inferInstance (fun hg br=>(jE (.bL hg I) (.of I))) I ?_;refine ek I I inferInstance (fun hg br=>(aZ (.bL hg I))) I ?_;refine ek I I inferInstance (fun hg br=>(aZ (.of I))) I ?_;refine ek I I inferInstance (fun hg br=>(aZ (.of I))) I ?_;refine xZ I I (fun hg=>(bj (.of I) (.cons (.bL hg I) (.cons (.bL hg I) .nil)) inferInstance fL)) I (fun hg w' aq=>(zD (Rd.keeps h1 (Mem.keeps aq)) (Rd.keeps h2 (Mem.keeps aq)))) ?_;refine ek I I inferInstance (fun hg br=>(gM hg (.bL hg I) I)) I ?_;refine aC I I inferInstance (fun hg br=>(ju hg (.bL hg I) I)) I ?_;refine ab (bH (.of I) I) I ?_;refine Ja I<|Jn<|Je<|JT ?_)
 rw [Rl];rfl
end Go.Proofs.A1
