/- Parts of the proof: DUOpen2. -/
import Derived.Test.YthhidjfahmcekaaDoorLM11
import Derived.Test.YthhidjfahmcekaaDoorLM16
set_option linter.unusedSectionVars false
set_option linter.unusedVariables false
set_option linter.unusedSimpArgs false
namespace Go.Proofs.A1
open Go Go.SL Go.ChangeShapes Go.WideShapes Go.Deep Go.Joins
section
variable {H:Type} {enc:TypeId × Value → H} {w:World}
theorem c82:Tryd.prog.cellsOf 82 = 6:=by kernel_rfl
theorem c80:Tryd.prog.cellsOf 80 = 2:=by kernel_rfl
theorem cells82 {n:Nat} {cs:List Value} {x:DataW H × List MemPlace} (h:DataW.trod enc Tryd.prog w 0 (fun _=>true) true n 82 cs = some x):∃ (a0:ByteArray) (a1:ByteArray) (a2:ByteArray) (a3:Int) (a4:Int) (a5:Int),cs = [.string a0,.string a1,.string a2,.int .i64 a3,.int .i64 a4,.int .i64 a5]:=by
  obtain ⟨ys,n0,_,_,hlen,hyl,hf⟩:=DataW.trod_struct Tryd.underlying82 h
  rw [c82] at hlen
  have hyl0:ys.length = 5:=hyl
  obtain ⟨k0,k1,k2,k3,k4,k5,rfl⟩:=list6 hlen
  have f0_0:DataW.trod enc Tryd.prog w 0 (fun _=>true) true n0 9 (List.take (Tryd.prog.cellsOf 9) (List.drop 0 [k0,k1,k2,k3,k4,k5])) = ys[0]?:=hf 0 _ rfl
  rw [c9,List.getElem?_eq_getElem (by omega)] at f0_0
  obtain ⟨b0,eb0,_,_⟩:=DataW.trod_string Tryd.underlying9 f0_0
  simp at eb0
  have f0_1:DataW.trod enc Tryd.prog w 0 (fun _=>true) true n0 9 (List.take (Tryd.prog.cellsOf 9) (List.drop 1 [k0,k1,k2,k3,k4,k5])) = ys[1]?:=hf 1 _ rfl
  rw [c9,List.getElem?_eq_getElem (by omega)] at f0_1
  obtain ⟨b1,eb1,_,_⟩:=DataW.trod_string Tryd.underlying9 f0_1
  simp at eb1
  have f0_2:DataW.trod enc Tryd.prog w 0 (fun _=>true) true n0 80 (List.take (Tryd.prog.cellsOf 80) (List.drop 2 [k0,k1,k2,k3,k4,k5])) = ys[2]?:=hf 2 _ rfl
  rw [c80,List.getElem?_eq_getElem (by omega)] at f0_2
  obtain ⟨zs3,m3,_,_,_,hzl3,hg3⟩:=DataW.trod_struct Tryd.underlying80 f0_2
  have hzl3_:zs3.length = 2:=hzl3
  have f1_3:DataW.trod enc Tryd.prog w 0 (fun _=>true) true m3 9 (List.take (Tryd.prog.cellsOf 9) (List.drop 0 (List.take 2 (List.drop 2 [k0,k1,k2,k3,k4,k5])))) = zs3[0]?:=hg3 0 _ rfl
  rw [c9,List.getElem?_eq_getElem (by omega)] at f1_3
  obtain ⟨b2,eb2,_,_⟩:=DataW.trod_string Tryd.underlying9 f1_3
  simp at eb2
  have f1_4:DataW.trod enc Tryd.prog w 0 (fun _=>true) true m3 3 (List.take (Tryd.prog.cellsOf 3) (List.drop 1 (List.take 2 (List.drop 2 [k0,k1,k2,k3,k4,k5])))) = zs3[1]?:=hg3 1 _ rfl
  rw [c3,List.getElem?_eq_getElem (by omega)] at f1_4
  obtain ⟨b3,eb3,_,_⟩:=DataW.trod_int Tryd.underlying3 f1_4
  simp at eb3
  have f0_5:DataW.trod enc Tryd.prog w 0 (fun _=>true) true n0 3 (List.take (Tryd.prog.cellsOf 3) (List.drop 4 [k0,k1,k2,k3,k4,k5])) = ys[3]?:=hf 3 _ rfl
  rw [c3,List.getElem?_eq_getElem (by omega)] at f0_5
  obtain ⟨b4,eb4,_,_⟩:=DataW.trod_int Tryd.underlying3 f0_5
  simp at eb4
  have f0_6:DataW.trod enc Tryd.prog w 0 (fun _=>true) true n0 3 (List.take (Tryd.prog.cellsOf 3) (List.drop 5 [k0,k1,k2,k3,k4,k5])) = ys[4]?:=hf 4 _ rfl
  rw [c3,List.getElem?_eq_getElem (by omega)] at f0_6
  obtain ⟨b5,eb5,_,_⟩:=DataW.trod_int Tryd.underlying3 f0_6
  simp at eb5
  subst eb0 eb1 eb2 eb3 eb4 eb5
  exact ⟨b0,b1,b2,b3,b4,b5,rfl⟩
theorem c59:Tryd.prog.cellsOf 59 = 2:=by kernel_rfl
theorem c4:Tryd.prog.cellsOf 4 = 1:=by kernel_rfl
theorem cells59 {n:Nat} {cs:List Value} {x:DataW H × List MemPlace} (h:DataW.trod enc Tryd.prog w 0 (fun _=>true) true n 59 cs = some x):∃ (a0:Int) (a1:Bool),cs = [.int .i64 a0,.bool a1]:=by
  obtain ⟨ys,n0,_,_,hlen,hyl,hf⟩:=DataW.trod_struct Tryd.underlying59 h
  rw [c59] at hlen
  have hyl0:ys.length = 2:=hyl
  obtain ⟨k0,k1,rfl⟩:=list2 hlen
  have f0_0:DataW.trod enc Tryd.prog w 0 (fun _=>true) true n0 3 (List.take (Tryd.prog.cellsOf 3) (List.drop 0 [k0,k1])) = ys[0]?:=hf 0 _ rfl
  rw [c3,List.getElem?_eq_getElem (by omega)] at f0_0
  obtain ⟨b0,eb0,_,_⟩:=DataW.trod_int Tryd.underlying3 f0_0
  simp at eb0
  have f0_1:DataW.trod enc Tryd.prog w 0 (fun _=>true) true n0 4 (List.take (Tryd.prog.cellsOf 4) (List.drop 1 [k0,k1])) = ys[1]?:=hf 1 _ rfl
  rw [c4,List.getElem?_eq_getElem (by omega)] at f0_1
  obtain ⟨b1,eb1,_⟩:=DataW.trod_bool Tryd.underlying4 f0_1
  simp at eb1
  subst eb0 eb1
  exact ⟨b0,b1,rfl⟩
theorem c60:Tryd.prog.cellsOf 60 = 1:=by kernel_rfl
theorem c61:Tryd.prog.cellsOf 61 = 2:=by kernel_rfl
theorem cells61 {n:Nat} {cs:List Value} {x:DataW H × List MemPlace} (h:DataW.trod enc Tryd.prog w 0 (fun _=>true) true n 61 cs = some x):∃ a0 a1:Int,cs = [.int .u32 a0,.int .u32 a1] ∧ (0 ≤ a0 ∧ a0 ≤ 4294967295) ∧ (0 ≤ a1 ∧ a1 ≤ 4294967295):=by
  obtain ⟨ys,n0,_,_,hlen,hyl,hf⟩:=DataW.trod_array Tryd.underlying61 h
  rw [c61] at hlen
  obtain ⟨k0,k1,rfl⟩:=list2 hlen
  have key:∀ i,i < 2 → DataW.trod enc Tryd.prog w 0 (fun _=>true) true n0 60 (List.take 1 (List.drop i [k0,k1])) = ys[i]?:=fun i hi=>by
    have:=hf i hi
    rwa [c60,Nat.mul_one] at this
  have f0:=key 0 (by omega)
  rw [List.getElem?_eq_getElem (by omega)] at f0
  obtain ⟨b0,e0,_,w0⟩:=DataW.trod_int Tryd.underlying60 f0
  simp at e0
  have f1:=key 1 (by omega)
  rw [List.getElem?_eq_getElem (by omega)] at f1
  obtain ⟨b1,e1,_,w1⟩:=DataW.trod_int Tryd.underlying60 f1
  simp at e1
  subst e0 e1
  exact ⟨b0,b1,rfl,wf_u32 w0,wf_u32 w1⟩
theorem c57:Tryd.prog.cellsOf 57 = 1:=by kernel_rfl
theorem c55:Tryd.prog.cellsOf 55 = 1:=by kernel_rfl
theorem cells57 {n:Nat} {cs:List Value} {x:DataW H × List MemPlace} (h:DataW.trod enc Tryd.prog w 0 (fun _=>true) true n 57 cs = some x):∃ (a0:Value),cs = [a0] ∧ (∃ (m:Nat) (y:DataW H × List MemPlace),DataW.trod enc Tryd.prog w 0 (fun _=>true) true m 55 [a0] = some y):=by
  obtain ⟨ys,n0,_,_,hlen,hyl,hf⟩:=DataW.trod_struct Tryd.underlying57 h
  rw [c57] at hlen
  have hyl0:ys.length = 1:=hyl
  obtain ⟨k0,rfl⟩:=list1 hlen
  have f0_0:DataW.trod enc Tryd.prog w 0 (fun _=>true) true n0 55 (List.take (Tryd.prog.cellsOf 55) (List.drop 0 [k0])) = ys[0]?:=hf 0 _ rfl
  rw [c55,List.getElem?_eq_getElem (by omega)] at f0_0
  exact ⟨k0,rfl,⟨_,_,by simpa using f0_0⟩⟩
theorem open_ens {n:Nat} {v:Value} {y:DataW H × List MemPlace} (h:DataW.trod enc Tryd.prog w 0 (fun _=>true) true n 55 [v] = some y):∃ es,Rd w v 6 (ensL es):=by
  haveI:Inhabited En:=⟨En.zero⟩
  exact open_rows (cells:=En.cells) Tryd.underlying55 c82 (by decide) (fun _=>rfl) (fun _ _ _ h=>by obtain ⟨a,b,c,d,e,f,rfl⟩:=cells82 h;exact ⟨⟨a,b,c,d,e,f⟩,rfl⟩) h
theorem open_sched {n:Nat} {sv:Value} {x:DataW H × List MemPlace} (h:DataW.trod enc Tryd.prog w 0 (fun _=>true) true n 57 [sv] = some x):∃ es,Rd w sv 6 (ensL es):=by
  obtain ⟨a,e,m,y,h2⟩:=cells57 h
  simp only [List.cons.injEq,and_true] at e
  subst e
  exact open_ens h2
end
theorem globN_of {W:World} {H:Type} {enc:TypeId × Value → H} {f3:Nat} {cs3:Array Value} {p3:List MemPlace} {s3:Nat → Bool} (hv3:W.var? Tryd.prog "genlock/schedule.names" = some cs3) (hd3:DataW.trod enc Tryd.prog W 0 s3 false f3 184 cs3.toList = some (.agg [.lit (.string [102,105,120,101,100]),.lit (.string [102,111,108,108,111,119,105,110,103]),.lit (.string [109,97,110,117,97,108])],p3)):Glob W:=by
  have hg3:Tryd.prog.globalNamed "genlock/schedule.names" = some 1:=by kernel_rfl
  obtain ⟨xs,m,_,ex,_,hl,hel⟩:=DataW.trod_array Tryd.underlying184 hd3
  have e3:(xs.map (·.1)) = [.lit (.string [102,105,120,101,100]),.lit (.string [102,111,108,108,111,119,105,110,103]),.lit (.string [109,97,110,117,97,108])]:=(DataW.agg.inj (Prod.mk.inj ex).1).symm
  have key:∀ (i:Nat) (l:List UInt8) (s:ByteArray),i < 3 → (xs.map (·.1))[i]? = some (.lit (.string l)) → s.data.toList = l → W.cell? ⟨1,i,none⟩ = some (.string s):=fun i l s hi h1 hs=>by
    have hE:=hel i hi
    rw [c9,Nat.mul_one,List.getElem?_eq_getElem (by omega)] at hE
    obtain ⟨z,e1,e2,_⟩:=DataW.trod_string Tryd.underlying9 hE
    rw [List.getElem?_map,List.getElem?_eq_getElem (by omega:i < xs.length),e2] at h1
    simp only [Option.map_some,Option.some.injEq,DataW.lit.injEq,Lit.string.injEq] at h1
    have hz:z = s:=by
      have:z.data = s.data:=Array.ext' (h1.trans hs.symm)
      cases z;cases s;simpa using this
    subst hz
    rw [World.var?_cell hg3 hv3 i]
    have:cs3.toList[i]? = some (.string z):=by
      have h0:((cs3.toList.drop i).take 1)[0]? = some (.string z):=by rw [e1];rfl
      simpa using h0
    simpa using this
  exact ⟨key 0 _ sFix (by omega) (by rw [e3];rfl) rfl,key 1 _ sFol (by omega) (by rw [e3];rfl) rfl,key 2 _ sMan (by omega) (by rw [e3];rfl) rfl⟩
theorem of_laid2 {W:World} (h:laidMetH Tryd.prog YthhidjfahmcekaaDoor.Rows.topCraneLabelledRow.laid W):GlobR W ∧ Glob W:=by
  rw [MakeChecks.laidMetH_plain _ _ _ (by kernel_rfl)] at h
  obtain ⟨ps,⟨g3,t3,cs3,f3,p3,q3,hg3,ht3,hv3,hd3,⟨g2,t2,cs2,f2,p2,q2,hg2,ht2,hv2,hd2,_,_⟩,_⟩,_,_⟩:=h
  obtain rfl:=Option.some.inj ((show Tryd.prog.globalNamed "genlock/code.rates" = some 0 by kernel_rfl).symm.trans hg3)
  obtain rfl:=Option.some.inj ((show (Tryd.prog.globals[0]?).map (·.type) = some 172 by kernel_rfl).symm.trans ht3)
  obtain rfl:=Option.some.inj ((show Tryd.prog.globalNamed "genlock/schedule.names" = some 1 by kernel_rfl).symm.trans hg2)
  obtain rfl:=Option.some.inj ((show (Tryd.prog.globals[1]?).map (·.type) = some 184 by kernel_rfl).symm.trans ht2)
  exact ⟨globs_of hv3 hd3,globN_of hv2 hd2⟩
end Go.Proofs.A1
