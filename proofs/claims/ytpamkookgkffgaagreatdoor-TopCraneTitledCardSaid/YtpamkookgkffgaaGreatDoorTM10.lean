/- Parts of the proof: ETryzSortF EU21c ETryzSort EU21 GkMapR UKp EU22. -/
import Derived.Shelf.SlSortCmp.WholeK
import Derived.Shelf.SlicesG.Cmp
import Derived.Ground.SlsfProg
import Derived.Ground.SlgcProg
import Derived.Ground.NamesProg
import Derived.Ground.Names2Prog
import Derived.Test.YtpamkookgkffgaaGreatDoorProg
import Derived.Test.YtpamkookgkffgaaGreatDoorTM09
import Derived.Shelf.Sort.Plain
import Derived.Test.YtpamkookgkffgaaGreatDoorTM06
import Derived.Shelf.Slices.In.SortNone
import Derived.Shelf.SlSortCmp.NoneTotal
import Derived.Test.YtpamkookgkffgaaGreatDoorTM05
import Derived.Laws.IdiomRangeMap
set_option linter.unusedSectionVars false
set_option linter.unusedVariables false
set_option linter.unusedSimpArgs false
namespace Go.Proofs
open Go.Shelf
def Tryz.sortCp_ren:Go.Shelf.Ren:=⟨fun | 6=>59 | 15=>90 | 14=>89 | 28=>111 | 29=>112 | 20=>103 | 21=>104 | 22=>105 | 23=>106 | 24=>107 | 25=>108 | 26=>109 | 27=>110 | 46=>126 | 47=>127 | 48=>128 | 49=>129 | 50=>130 | 57=>138 | n=>n,fun | 22=>80 | 24=>83 | 25=>138 | 3=>3 | 39=>168 | 0=>0 | 53=>193 | 55=>195 | 4=>4 | 46=>186 | 45=>185 | 50=>190 | 5=>5 | 9=>9 | 66=>206 | 70=>210 | 76=>215 | 77=>216 | n=>n,fun | n=>n⟩
theorem Tryz.sortCp:Go.Proofs.SlLaysF0.n6 Tryz.prog Tryz.sortCp_ren:={
  mixed:=by kernel_rfl
  f6:=⟨Tryz.f59.name,by decide,Tryz.func59.trans (congrArg some (by kernel_rfl))⟩
  f14:=⟨Tryz.f89.name,by decide,Tryz.func89.trans (congrArg some (by kernel_rfl))⟩
  f15:=Tryz.func90.trans (congrArg some (by kernel_rfl))
  f20:=⟨Tryz.f103.name,by decide,Tryz.func103.trans (congrArg some (by kernel_rfl))⟩
  f21:=⟨Tryz.f104.name,by decide,Tryz.func104.trans (congrArg some (by kernel_rfl))⟩
  f22:=⟨Tryz.f105.name,by decide,Tryz.func105.trans (congrArg some (by kernel_rfl))⟩
  f23:=⟨Tryz.f106.name,by decide,Tryz.func106.trans (congrArg some (by kernel_rfl))⟩
  f24:=⟨Tryz.f107.name,by decide,Tryz.func107.trans (congrArg some (by kernel_rfl))⟩
  f25:=⟨Tryz.f108.name,by decide,Tryz.func108.trans (congrArg some (by kernel_rfl))⟩
  f26:=⟨Tryz.f109.name,by decide,Tryz.func109.trans (congrArg some (by kernel_rfl))⟩
  f27:=⟨Tryz.f110.name,by decide,Tryz.func110.trans (congrArg some (by kernel_rfl))⟩
  f28:=Tryz.func111.trans (congrArg some (by kernel_rfl))
  f29:=Tryz.func112.trans (congrArg some (by kernel_rfl))
  f46:=⟨Tryz.f126.name,by decide,Tryz.func126.trans (congrArg some (by kernel_rfl))⟩
  f47:=Tryz.func127.trans (congrArg some (by kernel_rfl))
  f48:=Tryz.func128.trans (congrArg some (by kernel_rfl))
  f49:=⟨Tryz.f129.name,by decide,Tryz.func129.trans (congrArg some (by kernel_rfl))⟩
  f50:=⟨Tryz.f130.name,by decide,Tryz.func130.trans (congrArg some (by kernel_rfl))⟩
  f57:=⟨Tryz.f138.name,by decide,Tryz.func138.trans (congrArg some (by kernel_rfl))⟩
  t0:=Tryz.underlying0
  a0:=Tryz.isAgg0
  z0:=Tryz.sizeOf0
  v0:=Tryz.zeroValue0
  t3:=Tryz.underlying3
  a3:=Tryz.isAgg3
  z3:=Tryz.sizeOf3
  v3:=Tryz.zeroValue3
  t4:=Tryz.underlying4
  a4:=Tryz.isAgg4
  z4:=Tryz.sizeOf4
  v4:=Tryz.zeroValue4
  t5:=Tryz.underlying5
  a5:=Tryz.isAgg5
  z5:=Tryz.sizeOf5
  v5:=Tryz.zeroValue5
  t9:=Tryz.underlying9
  a9:=Tryz.isAgg9
  z9:=Tryz.sizeOf9
  v9:=Tryz.zeroValue9
  t22:=Tryz.underlying80
  a22:=Tryz.isAgg80
  z22:=Tryz.sizeOf80
  v22:=Tryz.zeroValue80
  t25:=Tryz.underlying138
  a25:=Tryz.isAgg138
  z25:=Tryz.sizeOf138
  v25:=Tryz.zeroValue138
  t39:=Tryz.underlying168
  a39:=Tryz.isAgg168
  z39:=Tryz.sizeOf168
  v39:=Tryz.zeroValue168
  t45:=Tryz.underlying185
  a45:=Tryz.isAgg185
  z45:=Tryz.sizeOf185
  v45:=Tryz.zeroValue185
  t46:=Tryz.underlying186
  a46:=Tryz.isAgg186
  z46:=Tryz.sizeOf186
  v46:=Tryz.zeroValue186
  t50:=Tryz.underlying190
  a50:=Tryz.isAgg190
  z50:=Tryz.sizeOf190
  v50:=Tryz.zeroValue190
  t53:=Tryz.underlying193
  a53:=Tryz.isAgg193
  z53:=Tryz.sizeOf193
  v53:=Tryz.zeroValue193
  t55:=Tryz.underlying195
  a55:=Tryz.isAgg195
  z55:=Tryz.sizeOf195
  v55:=Tryz.zeroValue195
  t66:=Tryz.underlying206
  a66:=Tryz.isAgg206
  z66:=Tryz.sizeOf206
  v66:=Tryz.zeroValue206
  t70:=Tryz.underlying210
  a70:=Tryz.isAgg210
  z70:=Tryz.sizeOf210
  v70:=Tryz.zeroValue210
  t76:=Tryz.underlying215
  a76:=Tryz.isAgg215
  z76:=Tryz.sizeOf215
  v76:=Tryz.zeroValue215
  t77:=Tryz.underlying216
  a77:=Tryz.isAgg216
  z77:=Tryz.sizeOf216
  v77:=Tryz.zeroValue216 }
def Tryz.cmpInt_ren:Go.Shelf.Ren:=⟨fun | 5=>37 | 7=>78 | n=>n,fun | 22=>3 | 3=>3 | 4=>4 | n=>n,fun | n=>n⟩
theorem Tryz.cmpInt:Go.Proofs.SlLaysC2.n5 Tryz.prog Tryz.cmpInt_ren:={
  mixed:=by kernel_rfl
  f5:=⟨Tryz.f37.name,by decide,Tryz.func37.trans (congrArg some (by kernel_rfl))⟩
  f7:=⟨Tryz.f78.name,by decide,Tryz.func78.trans (congrArg some (by kernel_rfl))⟩
  t3:=Tryz.underlying3
  a3:=Tryz.isAgg3
  z3:=Tryz.sizeOf3
  v3:=Tryz.zeroValue3
  t4:=Tryz.underlying4
  a4:=Tryz.isAgg4
  z4:=Tryz.sizeOf4
  v4:=Tryz.zeroValue4
  t22:=Tryz.underlying3
  a22:=Tryz.isAgg3
  z22:=Tryz.sizeOf3
  v22:=Tryz.zeroValue3 }
end Go.Proofs
namespace Go.Proofs
open Go.Shelf Go.RowKit Go.Lib Go.Sort
set_option maxHeartbeats 1000000 in
theorem Tryz.begins126 (a b:A1.Cp) (W:World):Calls Tryz.prog 60 #[.agg (A1.Cp.cells a).toArray,.agg (A1.Cp.cells b).toArray] W fun e w'=>e = .returned (.int .i64 (Lib.compareInt a.fr b.fr)) ∧ ∃ q os',w' = grow (W.drewN q) os':=by
  have hcon:=fun W'=>AnyG.cmp_Compare_int Tryz.cmpInt a.fr b.fr W'
  change ∀ W',Calls Tryz.prog 37 _ _ _ at hcon
  generalize Lib.compareInt a.fr b.fr = r at hcon ⊢
  unfold A1.Cp.cells
  go_enter Tryz.func60,Tryz.ntmps60
  go_wp2_with (go_at_call 37;refine (hcon _).mono ?_;rintro e w' ⟨rfl,rfl⟩)
  go_ret
  exact ⟨rfl,0,_,by rw [alloc_eq_grow,alloc_eq_grow,grow_grow];rfl⟩
end Go.Proofs
namespace Go.Proofs
open Go.Shelf
def Tryz.lays189_ren:Go.Shelf.Ren:=⟨fun | 189=>62 | 125=>90 | 257=>91 | 128=>111 | 129=>112 | 294=>113 | 295=>114 | 296=>115 | 297=>116 | 298=>117 | 299=>118 | 216=>119 | 300=>120 | 301=>121 | 328=>131 | 329=>127 | 330=>128 | 331=>132 | 332=>133 | 215=>78 | 343=>139 | n=>n,fun | 28=>26 | 3=>3 | 46=>168 | 0=>0 | 51=>193 | 53=>195 | 4=>4 | 183=>186 | 182=>185 | 131=>190 | 5=>5 | 9=>9 | 218=>206 | 222=>210 | 228=>215 | 229=>216 | n=>n,fun | n=>n⟩
theorem Tryz.lays189:Go.Proofs.Lays.n189 Tryz.prog Tryz.lays189_ren:={
  mixed:=by kernel_rfl
  f125:=Tryz.func90.trans (congrArg some (by kernel_rfl))
  f128:=Tryz.func111.trans (congrArg some (by kernel_rfl))
  f129:=Tryz.func112.trans (congrArg some (by kernel_rfl))
  f189:=Tryz.func62.trans (congrArg some (by kernel_rfl))
  f215:=Tryz.func78.trans (congrArg some (by kernel_rfl))
  f216:=Tryz.func119.trans (congrArg some (by kernel_rfl))
  f257:=Tryz.func91.trans (congrArg some (by kernel_rfl))
  f294:=Tryz.func113.trans (congrArg some (by kernel_rfl))
  f295:=Tryz.func114.trans (congrArg some (by kernel_rfl))
  f296:=Tryz.func115.trans (congrArg some (by kernel_rfl))
  f297:=Tryz.func116.trans (congrArg some (by kernel_rfl))
  f298:=Tryz.func117.trans (congrArg some (by kernel_rfl))
  f299:=Tryz.func118.trans (congrArg some (by kernel_rfl))
  f300:=Tryz.func120.trans (congrArg some (by kernel_rfl))
  f301:=Tryz.func121.trans (congrArg some (by kernel_rfl))
  f328:=Tryz.func131.trans (congrArg some (by kernel_rfl))
  f329:=Tryz.func127.trans (congrArg some (by kernel_rfl))
  f330:=Tryz.func128.trans (congrArg some (by kernel_rfl))
  f331:=Tryz.func132.trans (congrArg some (by kernel_rfl))
  f332:=Tryz.func133.trans (congrArg some (by kernel_rfl))
  f343:=Tryz.func139.trans (congrArg some (by kernel_rfl))
  t0:=Tryz.underlying0
  a0:=Tryz.isAgg0
  z0:=Tryz.sizeOf0
  v0:=Tryz.zeroValue0
  t3:=Tryz.underlying3
  a3:=Tryz.isAgg3
  z3:=Tryz.sizeOf3
  v3:=Tryz.zeroValue3
  t4:=Tryz.underlying4
  a4:=Tryz.isAgg4
  z4:=Tryz.sizeOf4
  v4:=Tryz.zeroValue4
  t5:=Tryz.underlying5
  a5:=Tryz.isAgg5
  z5:=Tryz.sizeOf5
  v5:=Tryz.zeroValue5
  t9:=Tryz.underlying9
  a9:=Tryz.isAgg9
  z9:=Tryz.sizeOf9
  v9:=Tryz.zeroValue9
  t28:=Tryz.underlying26
  a28:=Tryz.isAgg26
  z28:=Tryz.sizeOf26
  v28:=Tryz.zeroValue26
  t46:=Tryz.underlying168
  a46:=Tryz.isAgg168
  z46:=Tryz.sizeOf168
  v46:=Tryz.zeroValue168
  t51:=Tryz.underlying193
  a51:=Tryz.isAgg193
  z51:=Tryz.sizeOf193
  v51:=Tryz.zeroValue193
  t53:=Tryz.underlying195
  a53:=Tryz.isAgg195
  z53:=Tryz.sizeOf195
  v53:=Tryz.zeroValue195
  t131:=Tryz.underlying190
  a131:=Tryz.isAgg190
  z131:=Tryz.sizeOf190
  v131:=Tryz.zeroValue190
  t182:=Tryz.underlying185
  a182:=Tryz.isAgg185
  z182:=Tryz.sizeOf185
  v182:=Tryz.zeroValue185
  t183:=Tryz.underlying186
  a183:=Tryz.isAgg186
  z183:=Tryz.sizeOf186
  v183:=Tryz.zeroValue186
  t218:=Tryz.underlying206
  a218:=Tryz.isAgg206
  z218:=Tryz.sizeOf206
  v218:=Tryz.zeroValue206
  t222:=Tryz.underlying210
  a222:=Tryz.isAgg210
  z222:=Tryz.sizeOf210
  v222:=Tryz.zeroValue210
  t228:=Tryz.underlying215
  a228:=Tryz.isAgg215
  z228:=Tryz.sizeOf215
  v228:=Tryz.zeroValue215
  t229:=Tryz.underlying216
  a229:=Tryz.isAgg216
  z229:=Tryz.sizeOf216
  v229:=Tryz.zeroValue216 }
open Go.Sort Go.RowKit in
theorem Tryz.slices_Sort_int (blk off cap:Nat) (zs:List Int) (w:World) (hH:Holds (Value.int .i64) w blk off zs.toArray) (hblk:blk < w.heap.size) (hsz:zs.length < 4611686018427387904) :
    Calls Tryz.prog 62 #[.slice (some ⟨blk,off,none⟩) zs.length cap] w fun e w'=>
      e = .returned (.tuple #[]) ∧ ∃ n os,w' = grow (putRow (Value.int .i64) (Sort.ahead w n) blk off (zs.mergeSort fun x y=>decide (x ≤ y)).toArray) os:=Any.slices_Sort_int Tryz.lays189 blk off cap zs w hH hblk hsz
end Go.Proofs
namespace Go.Proofs.A1
open Go Go.SL Go.Shelf Go.RowKit
theorem intgV_eq (l:List Int):intgV l = l.map (Value.int .i64):=by
  induction l with
  | nil=>rfl
  | cons x l ih=>show [Value.int .i64 x]++intgV l = _;rw [ih];rfl
theorem intgV_length (l:List Int):(intgV l).length = l.length:=by rw [intgV_eq,List.length_map]
theorem put_heap {α:Type} [Inhabited α] {enc:α → Value} {w:World} {g n:Nat} {os:Array Obj} {cur:Array Value} {e:TypeId} {fr:Nat × Nat} (d:Array α) (hb:w.heap[g]? = some (.cells cur e fr)) :
    (Go.Sort.grow (Go.Sort.putRow enc (Go.Sort.ahead w n) g 0 d) os).heap[g]? = some (.cells (Go.Sort.putCells enc 0 d cur) e fr):=by
  have hg:g < w.heap.size:=(Array.getElem?_eq_some_iff.1 hb).1
  rw [Go.Sort.heap_grow_old _ _ (by simpa using hg)]
  simp [Go.Sort.putRow,Go.Sort.mapBlock,Go.Sort.ahead,Array.getElem?_modify,hb,Go.Sort.onCells]
theorem put_keeps {α:Type} [Inhabited α] {enc:α → Value} {w:World} {g n:Nat} {os:Array Obj} (d:Array α):Keeps [g] w (Go.Sort.grow (Go.Sort.putRow enc (Go.Sort.ahead w n) g 0 d) os):=by
  refine ⟨rfl,rfl,rfl,by simp,fun k hk hne=>?_⟩
  rw [Go.Sort.heap_grow_old _ _ (by simpa using hk)]
  have:g ≠ k:=fun e=>hne (by rw [e];simp)
  simp [Go.Sort.putRow,Go.Sort.mapBlock,Go.Sort.ahead,Array.getElem?_modify,this]
theorem take_put {α:Type} [Inhabited α] {enc:α → Value} (cur:Array Value) (ts:List α) (h:ts.length ≤ cur.size):(Go.Sort.putCells enc 0 ts.toArray cur).toList.take ts.length = ts.map enc:=by
  apply List.ext_getElem?
  intro j
  by_cases hj:j < ts.length
  · rw [List.getElem?_take_of_lt hj,Array.getElem?_toList]
    simp [Go.Sort.putCells,hj,show j < cur.size by omega]
  · rw [List.getElem?_take_eq_none (by omega),List.getElem?_eq_none (by simp;omega)]
theorem holds_ints {w:World} {g:Nat} {cur:Array Value} {e:TypeId} {l:List Int} (hb:w.heap[g]? = some (.cells cur e (0,0))) (ht:cur.toList.take l.length = intgV l):Go.Sort.Holds (Value.int .i64) w g 0 l.toArray:=by
  intro j hj
  have hj':j < l.length:=by simpa using hj
  refine ⟨?_,by simp [World.frozen?,hb]⟩
  have h1:(cur.toList.take l.length)[j]? = (intgV l)[j]?:=by rw [ht]
  rw [List.getElem?_take_of_lt hj'] at h1
  simp only [World.cell?,hb,Nat.zero_add]
  simp only [Option.isSome_none,Bool.false_eq_true,if_false]
  rw [Array.getElem?_toList] at h1
  rw [h1]
  simp [intgV_eq,hj']
theorem sort_c {v:Value} {l:List Int} {n:Nat} {w:World} {fp:List Nat} (hn:n = l.length) (hl:n ≤ 1000000) (hs:Sats (hp w) [row 3 1 v n (intgV l)] fp) :
    Gives Tryz.prog 62 [v] w fp (fun _:Unit=>True) (fun _=>.tuple #[]) (fun _=>[row 3 1 v n (intgV (srt l))]):=by
  obtain ⟨f1,f2,rfl,h1,h2⟩:=hs
  obtain rfl:f2 = []:=h2
  obtain ⟨rfl,hlen,h1⟩:=h1
  rw [List.append_nil]
  rcases h1 with ⟨rfl,h0⟩ | ⟨g,cap,cur,rfl,hg,hc1,hc2,hc3,hc4⟩
  · have hl0:l = []:=List.eq_nil_of_length_eq_zero (by omega)
    refine (Any.slices_Sort_int_none Tryz.lays189 none 0 w).mono fun e w' ⟨he,hw⟩=>?_
    subst hw
    refine ⟨(),he,trivial,.refl _ _,[],List.nodup_nil,⟨[],[],rfl,⟨rfl,?_,.inl ⟨rfl,h0⟩⟩,rfl⟩,by simp⟩
    rw [intgV_length,srt_len];omega
  · rw [Nat.mul_one] at hc3 hc4
    have hgl:g < w.heap.size:=(Array.getElem?_eq_some_iff.1 hg).1
    subst hn
    refine (Tryz.slices_Sort_int g 0 cap l w (holds_ints hg hc4) hgl (by omega)).mono fun e w' ⟨he,m,os,hw⟩=>?_
    subst hw
    refine ⟨(),he,trivial,put_keeps _,[g],by simp,⟨[g],[],rfl,⟨rfl,?_,.inr ⟨g,cap,_,rfl,put_heap _ hg,hc1,hc2,?_,?_⟩⟩,rfl⟩,by simp [Value.ownBlock]⟩
    · rw [intgV_length,srt_len];omega
    · simp [Go.Sort.putCells,hc3]
    · rw [Nat.mul_one]
      have:=take_put (enc:=Value.int .i64) cur (srt l) (by rw [srt_len];omega)
      rw [srt_len] at this
      rw [intgV_eq]
      exact this
instance :Inhabited Cp:=⟨Cp.zero⟩
theorem flatK_list (d:Array Cp):(Go.Sort.flatK Cp.cells 5 d).toList = cpsV d.toList:=by
  rw [cps_flat]
  apply List.ext_getElem?
  intro t
  have hlen:(cps d.toList).flatten.length = d.size * 5:=by rw [← cps_flat,cpsV_len,Array.length_toList]
  by_cases ht:t < d.size * 5
  · have h1:t / 5 < d.size:=by omega
    have h2:t % 5 < 5:=Nat.mod_lt _ (by omega)
    have e1:(cps d.toList)[t / 5]? = some (d[t / 5]).cells:=by
      have:=cps_get (l:=d.toList) (k:=t / 5) (by rw [Array.length_toList];exact h1)
      rw [this,Array.getElem_toList]
    have e2:((d[t / 5]).cells)[t % 5]? = some (((d[t / 5]).cells)[t % 5]'(by exact h2)):=List.getElem?_eq_getElem h2
    have e3:=flatten_get (sz:=5) (cps d.toList) (t / 5) (cps_sz _) e1 e2
    rw [show t / 5 * 5 + t % 5 = t by omega] at e3
    rw [e3,Array.getElem?_toList]
    have e4:(Go.Sort.flatK Cp.cells 5 d)[t]? = some ((Go.Sort.flatK Cp.cells 5 d)[t]!):=by
      rw [getElem!_pos _ t (by rw [Go.Sort.size_flatK];exact ht)]
      exact getElem?_pos _ t (by rw [Go.Sort.size_flatK];exact ht)
    rw [e4,Go.Sort.get_flatK _ _ _ _ ht,getElem!_pos d (t / 5) h1,getElem!_pos _ (t % 5) (by exact h2)]
  · rw [List.getElem?_eq_none (by rw [Array.length_toList,Go.Sort.size_flatK];omega),List.getElem?_eq_none (by rw [hlen];omega)]
theorem holds_caps {w:World} {g:Nat} {cur:Array Value} {e:TypeId} {l:List Cp} (hb:w.heap[g]? = some (.cells cur e (0,0))) (ht:cur.toList.take (l.length * 5) = cpsV l):Go.Sort.HoldsK Cp.cells 5 w g 0 l.toArray:=by
  intro j hj
  have hj':j < l.length * 5:=by simpa using hj
  refine ⟨?_,by simp [World.frozen?,hb]⟩
  have h0:=flatK_list l.toArray
  have h1:(cur.toList.take (l.length * 5))[j]? = (Go.Sort.flatK Cp.cells 5 l.toArray).toList[j]?:=by rw [ht,h0]
  rw [List.getElem?_take_of_lt hj',Array.getElem?_toList,Array.getElem?_toList] at h1
  simp only [World.cell?,hb,Nat.zero_add]
  simp only [Option.isSome_none,Bool.false_eq_true,if_false]
  rw [h1,getElem!_pos _ j hj]
  exact getElem?_pos _ j hj
theorem swo_fr:Go.Sort.SWO (ltOf fun x y:Cp=>Lib.compareInt x.fr y.fr):=by
  have e:∀ x y:Cp,ltOf (fun x y:Cp=>Lib.compareInt x.fr y.fr) x y = decide (x.fr < y.fr):=by
    intro x y
    unfold ltOf Lib.compareInt
    by_cases h1:x.fr < y.fr
    · simp [h1]
    · by_cases h2:y.fr < x.fr <;> simp [h1,h2]
  constructor
  · intro x;rw [e];simp
  · intro x y z h1 h2;rw [e] at *;simp at *;omega
  · intro x y z h1 h2;rw [e] at *;simp at *;omega
theorem sortF_c {v:Value} {l:List Cp} {n:Nat} {w:World} {fp:List Nat} (hn:n = l.length) (hl:n ≤ 1000000) (hs:Sats (hp w) [row 83 5 v n (cpsV l)] fp) :
    Gives Tryz.prog 59 [v,.func (.func 60) #[] #[]] w fp (fun l':List Cp=>List.Perm l' l) (fun _=>.tuple #[]) (fun l'=>[row 83 5 v n (cpsV l')]):=by
  obtain ⟨f1,f2,rfl,h1,h2⟩:=hs
  obtain rfl:f2 = []:=h2
  obtain ⟨rfl,hlen,h1⟩:=h1
  rw [List.append_nil]
  rcases h1 with ⟨rfl,h0⟩ | ⟨g,cap,cur,rfl,hg,hc1,hc2,hc3,hc4⟩
  · have hl0:l = []:=List.eq_nil_of_length_eq_zero (by omega)
    refine (AnyF.slices_SortFunc_none Tryz.sortCp none 0 (.func (.func 60) #[] #[]) w).mono fun e w' ⟨he,hw⟩=>?_
    subst hw
    exact ⟨l,he,.refl _,.refl _ _,[],List.nodup_nil,⟨[],[],rfl,⟨rfl,hlen,.inl ⟨rfl,h0⟩⟩,rfl⟩,by simp⟩
  · have hgl:g < w.heap.size:=(Array.getElem?_eq_some_iff.1 hg).1
    subst hn
    have hcmp:CmpLays Tryz.prog 60 #[] Cp.cells 5 (fun x y=>Lib.compareInt x.fr y.fr) g 0 l.toArray.size w:=fun _ _ _ _ x y=>Tryz.begins126 x y _
    have eg:∀ args w,(callFunc 60 args).run Tryz.prog w = .ok (.enter 60 args) w:=enters_of Tryz.func60 (by kernel_rfl) rfl
    have key:=AnyQ.slices_SortFunc Tryz.sortCp 5 Tryz.isAgg83 Tryz.sizeOf83 Cp.cells (fun _=>rfl) (fun x v hv=>by simp only [Cp.cells,List.mem_cons,List.not_mem_nil,or_false] at hv;rcases hv with rfl | rfl | rfl | rfl | rfl <;> rfl) (fun x y=>Lib.compareInt x.fr y.fr) swo_fr 60 #[] g 0 cap l.toArray w eg hcmp (holds_caps hg hc4) hgl (by simp;omega)
    refine Calls.mono key ?_
    rintro e w' ⟨he,d',m,os,hp,_,hw⟩
    subst hw
    obtain ⟨hp1,_,hp3⟩:=hp
    have hd:List.Perm d'.toList l:=by
      rw [show (l.toArray.extract 0 l.toArray.size) = l.toArray by simp,show d'.extract 0 l.toArray.size = d' by rw [← hp1];simp] at hp3
      exact hp3
    have hds:d'.size = l.length:=by rw [hp1];simp
    refine ⟨d'.toList,he,hd,put_keeps _,[g],by simp,⟨[g],[],rfl,⟨rfl,?_,.inr ⟨g,cap,_,rfl,put_heap _ hg,hc1,hc2,?_,?_⟩⟩,rfl⟩,by simp [Value.ownBlock]⟩
    · rw [cpsV_len,hd.length_eq]
    · simp [Go.Sort.putCells,hc3]
    · have:=take_put (enc:=id) cur (Go.Sort.flatK Cp.cells 5 d').toList (by rw [Array.length_toList,Go.Sort.size_flatK,hds];omega)
      rw [List.map_id,Array.toArray_toList,Array.length_toList,Go.Sort.size_flatK,hds] at this
      exact this.trans (flatK_list d')
end Go.Proofs.A1
namespace Go.SL
open Go
section
variable {P:Program} {r:Option Nat} {c:Cx} {D:List Nat} {sl:Slots} {hs hs' hs2:List Asn} {Q:Exit → Act → World → Prop} {ops:Array Oper} {d:Nat} {dst:Option Tmp} {ty:TypeId} {pos:String} {af:Array Edge} {g:Option (Nat × Bool)} {rest:List Oper} {κ:Type} [DecidableEq κ] {kv:κ → Value}
theorem tr_mpOpen {X:Act → World → Prop} {b:Nat} {l:List (κ × Value)} (ht:Take hs (mp kv b l) hs') (k:∀ es ck,mpOk kv l es ck → Tr c D sl (blk b (.map es ck) :: hs') X):Tr c D sl hs X:=fun a w hst=>by
  have hm:=hst.mem.take (ht.append _)
  obtain ⟨kk,fp,hn,⟨f1,f2,rfl,⟨e,es,ck,h1,h2⟩,h3⟩,hfb⟩:=hm
  exact k es ck h2 a w (hst.heap ⟨kk,f1++f2,hn,⟨f1,f2,rfl,⟨e,h1⟩,h3⟩,hfb⟩)
theorem rk_rangeM {t kt et:TypeId} {x:Operand} {b:Nat} {es:Array MapEntry} {ck:Nat} [hu:Und P t (.map kt et)] (hx:Is sl x (.map (some b))) (ht:Take hs (blk b (.map es ck)) hs') :
    RunN P c sl hs ⟨dst,.range t x,ty,pos,af,g⟩ (fun b'=>.pointer (some ⟨b',0,none⟩)) (.mapIter (some b) ck #[] ck):=
  ⟨by simp,fun a w ha hm=>by
    have hb:=hm.blk ht
    have:=run_range_map (P:=P) w t kt et b es ck hu.eq hb
    simp only [execOp,hx a ha,Sem.run_bind,this,Result.andThen_ok,Sem.run_pure]⟩
theorem left_zero {es:Array MapEntry} {seen:Array Nat} (h:(leftOf es seen).size = 0):∀ x ∈ es.toList,seen.contains x.born = true:=all_seen es seen h
theorem setBlock_setObj {w:World} {b:Nat} {m:Option Nat} {s1 s3:Nat} {s2:Array Nat} {o':Obj} (h:w.heap[b]? = some (.mapIter m s1 s2 s3)):(setObj b o').run P w = .ok () (setBlock w b o'):=by simp [setObj,Sem.run,h,setBlock]
theorem run_nextM {w:World} {b bm since c0 ck:Nat} {seen:Array Nat} {es:Array MapEntry} (hb:w.heap[bm]? = some (.map es ck)) (hi:w.heap[b]? = some (.mapIter (some bm) since seen c0)) (hold:∀ x ∈ es.toList,x.born < since) (hsc:since ≤ c0) :
    ((leftOf es seen).size = 0 ∧ (Instr.next (.pointer (some ⟨b,0,none⟩)) false ty).run P w = .ok (.tuple #[.bool false]) w) ∨
    ∃ e ∈ (leftOf es seen).toList,∃ w1:World,(w1 = w ∨ w1 = w.drew) ∧ (Instr.next (.pointer (some ⟨b,0,none⟩)) false ty).run P w = .ok (.tuple #[.bool true,e.key,e.val]) (setBlock w1 b (.mapIter (some bm) since (seen.push e.born) ck)):=by
  simp only [Instr.next,getObj,Sem.run_bind,Sem.run,hi,hb,Result.andThen,next_test_false seen es since c0 hold hsc,Bool.false_eq_true,if_false]
  unfold leftOf
  have hmem:∀ x ∈ (Array.filter (fun e=>!seen.contains e.born) es).toList,x.born < since:=fun x hx=>hold x (by simp at hx ⊢;exact hx.1)
  generalize Array.filter (fun e=>!seen.contains e.born) es = L at hmem ⊢
  have e1:L.filter (fun x=>decide (x.born < since)) = L:=Array.filter_eq_self.2 (fun x hx=>by simpa using hmem x (by simpa using hx))
  have e2:L.filter (fun x=>decide (x.born ≥ since)) = #[]:=by
    rw [Array.filter_eq_empty_iff]
    intro x hx
    have:=hmem x (by simpa using hx)
    simp
    omega
  simp only [e1,e2,Array.append_empty]
  by_cases h0:L.size = 0
  · left
    have:L = #[]:=Array.eq_empty_of_size_eq_zero h0
    subst this
    refine ⟨rfl,?_⟩
    simp [choose,Sem.run,Question.forced]
  · right
    have hne:L.isEmpty = false:=by simp [Array.isEmpty,h0]
    simp only [hne,Bool.false_eq_true,if_false,Array.empty_append,Array.size_map]
    have hch:∃ (j:Nat) (w1:World),j < L.size ∧ (w1 = w ∨ w1 = w.drew) ∧ (choose (Question.mapNext L.size)).run P w = .ok j w1:=by
      by_cases hf:L.size ≤ 1
      · exact ⟨0,w,by omega,.inl rfl,by simp [choose,Sem.run,Question.forced,hf]⟩
      · exact ⟨_,w.drew,Nat.mod_lt _ (by omega),.inr rfl,by
          simp only [choose,Sem.run,Question.forced,decide_eq_true_eq,hf,if_false,Question.cut]
          rfl⟩
    obtain ⟨j,w1,hj,hal,hrun⟩:=hch
    refine ⟨L[j],by simp,w1,hal,?_⟩
    have hi1:w1.heap[b]? = some (.mapIter (some bm) since seen c0):=by
      rcases hal with e | e
      · rw [e];exact hi
      · rw [e];exact hi
    simp only [hrun,Array.getElem?_map,Array.getElem?_eq_getElem hj,Option.map_some,Sem.run_bind,setBlock_setObj hi1,Result.andThen]
    rfl
theorem tr_nextM {x:Operand} {b bm since c0 ck:Nat} {seen:Array Nat} {es:Array MapEntry} (hx:Is sl x (.pointer (some ⟨b,0,none⟩))) (hd:Nat.blt d c.nt = true) (ht:Take hs (blk b (.mapIter (some bm) since seen c0)) hs') (ht2:Take hs' (blk bm (.map es ck)) hs2) (hold:∀ x ∈ es.toList,x.born < since) (hsc:since ≤ c0) (hck:since ≤ ck)
    (k0:(∀ x ∈ es.toList,seen.contains x.born = true) → Tr c D ((d,.tuple #[.bool false]) :: sl) (blk b (.mapIter (some bm) since seen c0) :: blk bm (.map es ck) :: hs2) (WL P r ops Q rest))
    (k1:∀ e,e ∈ es.toList → seen.contains e.born = false → Tr c D ((d,.tuple #[.bool true,e.key,e.val]) :: sl) (blk b (.mapIter (some bm) since (seen.push e.born) ck) :: blk bm (.map es ck) :: hs2) (WL P r ops Q rest)) :
    Tr c D sl hs (WL P r ops Q (⟨some d,.next x false,ty,pos,af,none⟩ :: rest)):=fun a w hst=>by
  have _:=hck
  have hT:Takes hs [blk b (.mapIter (some bm) since seen c0),blk bm (.map es ck)] hs2:=.cons ht (.cons ht2 .nil)
  have hm:=hst.mem.takes (hT.append (mks D))
  have hi:=hst.mem'.blk ht
  have hb:w.heap[bm]? = some (.map es ck):=(show Mem c (blk b (.mapIter (some bm) since seen c0) :: blk bm (.map es ck) :: (hs2++mks D)) w from hm).blk (.there .here)
  have hdl:d < c.nt:=by simpa [Nat.blt_eq] using hd
  refine wl_op rfl ⟨fr_about _ _ _ _ _,?_⟩
  rw [Oper.semAt_eq _ _ _ (by simp)]
  rcases run_nextM (P:=P) (ty:=ty) hb hi hold hsc with ⟨h0,h1⟩ | ⟨e,he,w1,hw,h1⟩
  · have:(execOp a.eval ⟨some d,.next x false,ty,pos,af,none⟩).run P w = .ok (.value (.tuple #[.bool false])) w:=by
      simp only [execOp,hx a hst.slots,Sem.run_bind,h1,Result.andThen_ok,Sem.run_pure]
    rw [this]
    exact k0 (left_zero h0) _ _ ((hst.put hdl _).heap (by simpa using hm))
  · have:(execOp a.eval ⟨some d,.next x false,ty,pos,af,none⟩).run P w = .ok (.value (.tuple #[.bool true,e.key,e.val])) (setBlock w1 b (.mapIter (some bm) since (seen.push e.born) ck)):=by
      simp only [execOp,hx a hst.slots,Sem.run_bind,h1,Result.andThen_ok,Sem.run_pure]
    rw [this]
    obtain ⟨m1,m2⟩:=mem_left he
    have hm1:Mem c (blk b (.mapIter (some bm) since seen c0) :: (blk bm (.map es ck) :: (hs2++mks D))) w1:=by
      rcases hw with e | e
      · rw [e];exact hm
      · rw [e];exact Mem.drew hm
    have hm2:=Mem.store hm1 (Keeps.setBlock w1 b (.mapIter (some bm) since (seen.push e.born) ck)) (setBlock_same (hp_lt (w:=w1) (hm1.blk .here)))
    exact k1 e m1 m2 _ _ ((hst.put hdl _).heap (by simpa using hm2))
theorem left_mem {es:Array MapEntry} {seen:Array Nat} {e:MapEntry} (h1:e ∈ es.toList) (h2:seen.contains e.born = false):e ∈ (leftOf es seen).toList:=by
  unfold leftOf
  simp only [Array.toList_filter,List.mem_filter]
  exact ⟨h1,by rw [h2];rfl⟩
theorem rk_entry {x:Operand} {b bm since ck:Nat} {seen:Array Nat} {es:Array MapEntry} {e:MapEntry} (hx:Is sl x (.pointer (some ⟨b,0,none⟩))) (ht:Take hs (blk b (.mapIter (some bm) since (seen.push e.born) ck)) hs') (ht2:Take hs' (blk bm (.map es ck)) hs2) (he:e ∈ es.toList) (hn:(es.toList.map (·.born)).Nodup) :
    RunV P c sl hs ⟨dst,.entry x,ty,pos,af,g⟩ (.tuple #[e.key,e.val]):=
  ⟨by simp,fun a w ha hm=>by
    have h1:=hm.blk ht
    have h2:w.heap[bm]? = some (.map es ck):=(show Mem c (_ :: hs') w from hm.take ht).blk (.there ht2)
    have hf:es.find? (·.born == e.born) = some e:=by rw [← Array.find?_toList];exact find_born e es.toList hn he
    have:(Instr.entry (.pointer (some ⟨b,0,none⟩))).run P w = .ok (.tuple #[e.key,e.val]) w:=by
      simp only [Instr.entry,getObj,Sem.run_bind,Sem.run,h1,h2,Result.andThen,Array.back?_push,bne_self_eq_false,Bool.false_eq_true,if_false,hf]
      rfl
    simp only [execOp,hx a ha,Sem.run_bind,this,Result.andThen_ok,Sem.run_pure]⟩
end
end Go.SL
namespace Go.Proofs.A1
open Go Go.SL
def keysM (m:List (Int × Value)):List Int:=m.map (·.1)
theorem aset_mem (k:Int) (v:Value):∀ (m:List (Int × Value)) (x:Int),x ∈ keysM (aset k v m) ↔ x = k ∨ x ∈ keysM m
  | [],x=>by simp [aset,keysM]
  | (y, u) :: r, x => by
    have ih:=aset_mem k v r x
    unfold aset
    by_cases h:k = y
    · rw [if_pos h]
      subst h
      simp [keysM]
    · rw [if_neg h]
      simp only [keysM,List.map_cons,List.mem_cons] at ih ⊢
      rw [ih]
      constructor
      · rintro (h | h | h)
        · exact .inr (.inl h)
        · exact .inl h
        · exact .inr (.inr h)
      · rintro (h | h | h)
        · exact .inr (.inl h)
        · exact .inl h
        · exact .inr (.inr h)
theorem aset_nodup (k:Int) (v:Value):∀ (m:List (Int × Value)),(keysM m).Nodup → (keysM (aset k v m)).Nodup
  | [],_=>by simp [aset,keysM]
  | (y, u) :: r, h => by
    unfold aset
    by_cases e:k = y
    · rw [if_pos e];exact h
    · rw [if_neg e]
      simp only [keysM,List.map_cons,List.nodup_cons] at h ⊢
      refine ⟨fun hm=>?_,aset_nodup k v r h.2⟩
      rcases (aset_mem k v r y).1 hm with h1 | h1
      · exact e h1.symm
      · exact h.1 h1
structure EndM (l:List Cp) (j:Nat) (m:List (Int × Value)):Prop where
  nd:(keysM m).Nodup
  mem:∀ x,x ∈ keysM m ↔ endB (l.take j) x = true
theorem EndM.zero (l:List Cp):EndM l 0 []:=⟨by simp [keysM],fun x=>by simp [keysM,endB]⟩
theorem endB_next {l:List Cp} {j:Nat} (hj:j < l.length) (x:Int):endB (l.take (j + 1)) x = (endB (l.take j) x || (decide ((l[j]).fr = x) || decide ((l[j]).to = x))):=by
  unfold endB;rw [List.take_succ_eq_append_getElem hj,List.any_append];simp
theorem EndM.next {l:List Cp} {j:Nat} {m:List (Int × Value)} (h:EndM l j m) (hj:j < l.length) {a b:Int} (u v:Value) (hab:(a = (l[j]).fr ∧ b = (l[j]).to) ∨ (a = (l[j]).to ∧ b = (l[j]).fr)):EndM l (j + 1) (aset b v (aset a u m)):=by
  refine ⟨aset_nodup _ _ _ (aset_nodup _ _ _ h.nd),fun x=>?_⟩
  rw [aset_mem,aset_mem,h.mem,endB_next hj]
  simp only [Bool.or_eq_true,decide_eq_true_eq]
  rcases hab with ⟨rfl,rfl⟩ | ⟨rfl,rfl⟩
  · constructor
    · rintro (h | h | h)
      · exact .inr (.inr h.symm)
      · exact .inr (.inl h.symm)
      · exact .inl h
    · rintro (h | h | h)
      · exact .inr (.inr h)
      · exact .inr (.inl h.symm)
      · exact .inl h.symm
  · constructor
    · rintro (h | h | h)
      · exact .inr (.inl h.symm)
      · exact .inr (.inr h.symm)
      · exact .inl h
    · rintro (h | h | h)
      · exact .inr (.inr h)
      · exact .inl h.symm
      · exact .inr (.inl h.symm)
theorem endB_perm {l l':List Cp} (h:List.Perm l' l) (x:Int):endB l' x = endB l x:=by
  unfold endB
  rw [Bool.eq_iff_iff,List.any_eq_true,List.any_eq_true]
  constructor
  · rintro ⟨y,hy,h2⟩;exact ⟨y,h.mem_iff.1 hy,h2⟩
  · rintro ⟨y,hy,h2⟩;exact ⟨y,h.mem_iff.2 hy,h2⟩
structure FndM (l:List Cp) (es:Array MapEntry) (seen:Array Nat) (out:List Int):Prop where
  nd:out.Nodup
  mem:∀ x,x ∈ out ↔ (∃ e ∈ es.toList,seen.contains e.born = true ∧ e.key = .int .i64 x) ∧ chB l x = true
theorem FndM.zero (l:List Cp) (es:Array MapEntry):FndM l es #[] []:=⟨by simp,fun x=>by simp⟩
theorem ent_keys {m:List (Int × Value)} {es:Array MapEntry} {ck:Nat} (h:mpOk (fun n:Int=>Value.int .i64 n) m es ck):es.toList.map (·.key) = (keysM m).map (Value.int .i64):=by
  have:=congrArg (List.map (·.1)) h.eq
  rw [List.map_map,List.map_map] at this
  unfold keysM
  rw [List.map_map]
  exact this
theorem ent_int {m:List (Int × Value)} {es:Array MapEntry} {ck:Nat} (h:mpOk (fun n:Int=>Value.int .i64 n) m es ck) {e:MapEntry} (he:e ∈ es.toList):∃ x ∈ keysM m,e.key = .int .i64 x:=by
  have:e.key ∈ es.toList.map (·.key):=List.mem_map_of_mem he
  rw [ent_keys h] at this
  obtain ⟨x,hx,e⟩:=List.mem_map.1 this
  exact ⟨x,hx,e.symm⟩
theorem nodup_idx {α:Type}:∀ {l:List α} {i j:Nat} (hi:i < l.length) (hj:j < l.length),l.Nodup → l[i] = l[j] → i = j
  | [],i,_,hi,_,_,_=>absurd hi (by simp)
  | a :: l, i, j, hi, hj, hn, he => by
    rw [List.nodup_cons] at hn
    match i,j with
    | 0,0=>rfl
    | 0, j + 1 =>
      have e:a = l[j]'(by simpa using hj):=by simpa using he
      exact absurd (by rw [e];exact List.getElem_mem _) hn.1
    | i + 1, 0 =>
      have e:l[i]'(by simpa using hi) = a:=by simpa using he
      exact absurd (by rw [← e];exact List.getElem_mem _) hn.1
    | i + 1,j + 1=>exact congrArg (· + 1) (nodup_idx (l:=l) (by simpa using hi) (by simpa using hj) hn.2 (by simpa using he))
theorem ent_same {m:List (Int × Value)} {es:Array MapEntry} {ck:Nat} (h:mpOk (fun n:Int=>Value.int .i64 n) m es ck) (hn:(keysM m).Nodup) {e e':MapEntry} (he:e ∈ es.toList) (he':e' ∈ es.toList) (hk:e.key = e'.key):e = e':=by
  obtain ⟨i,hi,rfl⟩:=List.getElem_of_mem he
  obtain ⟨j,hj,rfl⟩:=List.getElem_of_mem he'
  have hL:=ent_keys h
  have hn2:(es.toList.map (·.key)).Nodup:=by
    rw [hL,List.Nodup,List.pairwise_map]
    exact hn.imp fun h e=>h (by simpa using e)
  have:i = j:=nodup_idx (l:=es.toList.map (·.key)) (by simpa using hi) (by simpa using hj) hn2 (by simpa using hk)
  subst this;rfl
theorem push_has {a:Array Nat} {x y:Nat}:(a.push x).contains y = true ↔ a.contains y = true ∨ y = x:=by
  simp [Array.contains_iff_mem,Array.mem_push]
theorem FndM.next {l:List Cp} {m:List (Int × Value)} {es:Array MapEntry} {ck:Nat} {seen:Array Nat} {out:List Int} (h:FndM l es seen out) (hm:mpOk (fun n:Int=>Value.int .i64 n) m es ck) (hn:(keysM m).Nodup) {e:MapEntry} (he:e ∈ es.toList) (hs:seen.contains e.born = false) {x:Int} (hx:e.key = .int .i64 x) :
    FndM l es (seen.push e.born) (out++if chB l x then [x] else []):=by
  have hnew:x ∉ out:=fun hx2=>by
    obtain ⟨⟨e',he',hs',hk'⟩,_⟩:=(h.mem x).1 hx2
    have:=ent_same hm hn he he' (hx.trans hk'.symm)
    subst this
    rw [hs'] at hs;cases hs
  refine ⟨?_,fun y=>?_⟩
  · cases hc:chB l x with
    | true =>
      rw [if_pos rfl,List.nodup_append]
      refine ⟨h.nd,by simp,fun a ha b hb=>?_⟩
      rw [List.mem_singleton] at hb
      subst hb
      rintro rfl
      exact hnew ha
    | false=>simpa using h.nd
  · rw [List.mem_append,h.mem]
    constructor
    · rintro (⟨⟨e',he',hs',hk'⟩,hc⟩ | hy)
      · exact ⟨⟨e',he',push_has.2 (.inl hs'),hk'⟩,hc⟩
      · cases hc:chB l x with
        | true =>
          rw [hc,if_pos rfl,List.mem_singleton] at hy
          subst hy
          exact ⟨⟨e,he,push_has.2 (.inr rfl),hx⟩,hc⟩
        | false=>rw [hc] at hy;simp at hy
    · rintro ⟨⟨e',he',hs',hk'⟩,hc⟩
      rcases push_has.1 hs' with h1 | h1
      · exact .inl ⟨⟨e',he',h1,hk'⟩,hc⟩
      · refine .inr ?_
        have hb:e' = e:=by
          have hnd:=hm.nd
          obtain ⟨i,hi,rfl⟩:=List.getElem_of_mem he
          obtain ⟨j,hj,rfl⟩:=List.getElem_of_mem he'
          have:j = i:=nodup_idx (l:=es.toList.map (·.born)) (by simpa using hj) (by simpa using hi) hnd (by simpa using h1)
          subst this;rfl
        subst hb
        have:y = x:=by rw [hx] at hk';cases hk';rfl
        subst this
        rw [hc,if_pos rfl];simp
theorem FndM.all {l l':List Cp} {m:List (Int × Value)} {es:Array MapEntry} {ck:Nat} {seen:Array Nat} {out:List Int} (h:FndM l es seen out) (hm:mpOk (fun n:Int=>Value.int .i64 n) m es ck) (hE:EndM l' l'.length m) (hp:List.Perm l' l) (hall:∀ e ∈ es.toList,seen.contains e.born = true):∀ x,x ∈ out ↔ endB l x = true ∧ chB l x = true:=by
  intro x
  rw [h.mem]
  have hk:endB l x = true ↔ x ∈ keysM m:=by rw [hE.mem,List.take_length,endB_perm hp]
  rw [hk]
  constructor
  · rintro ⟨⟨e,he,_,hk⟩,hc⟩
    obtain ⟨y,hy,hye⟩:=ent_int hm he
    rw [hk] at hye
    cases hye
    exact ⟨hy,hc⟩
  · rintro ⟨hx,hc⟩
    have:Value.int .i64 x ∈ es.toList.map (·.key):=by rw [ent_keys hm];exact List.mem_map_of_mem hx
    obtain ⟨e,he,hke⟩:=List.mem_map.1 this
    exact ⟨⟨e,he,hall e he,hke⟩,hc⟩
theorem aset_len (k:Int) (v:Value):∀ m:List (Int × Value),(aset k v m).length ≤ m.length + 1
  | []=>by simp [aset]
  | (y, u) :: r => by
    unfold aset
    split
    · simp
    · have:=aset_len k v r;simp;omega
end Go.Proofs.A1
namespace Go.Proofs.A1
open Go Go.SL
theorem tr_rowLitE {c:Cx} {D:List Nat} {sl:Slots} {hs hs':List Asn} {X:Act → World → Prop} {E:TypeId} {g:Nat} {xs ys:List Value} (n sz:Nat) (ht:Take hs (blk g (.cells xs.toArray E (0,0))) hs') (he:xs = ys) (hl:ys.length = n * sz) (hn:Nat.ble n 1000 = true)
    (k:Tr c D sl (row E sz (.slice (some ⟨g,0,none⟩) n n) n ys :: hs') X):Tr c D sl hs X:=by
  subst he
  exact tr_rowShut (n:=n) (cap:=n) (cur:=[]) (by rw [List.append_nil];exact ht) (Nat.le_refl _) (by unfold maxLen;have:=Nat.le_of_ble_eq_true hn;omega) (by rw [List.append_nil,hl]) hl k
theorem rk_build0 {P:Program} {c:Cx} {sl:Slots} {hs:List Asn} {dst:Option Tmp} {ty:TypeId} {pos:String} {af:Array Edge} {g:Option (Nat × Bool)} {t e:TypeId} {agg:Bool} {size:Nat} [hu:Und P t (.slice e)] [hT:Ty P e agg size] :
    RunN P c sl hs ⟨dst,.buildSlice t 0 #[],ty,pos,af,g⟩ (fun b=>.slice (some ⟨b,0,none⟩) 0 0) (.cells ([]:List Value).toArray e):=
  rk_buildSlice (ps:=#[]) (fun a _=>by simp) fun w=>by
    have e0:Array.map (fun _=>(default:Value)) (Array.range 0) = #[]:=by apply Array.ext';simp
    unfold Instr.buildSlice
    simp [rk_underlying hu.eq,rk_sizeOf (t:=e) (agg:=agg) (n:=size),Instr.fill,newRow,e0]
theorem cloneC_c {lv:Value} {l:List Cp} {w:World} (h:Rd w lv 5 (cps l)) (hl:l.length ≤ 1000) :
    Gives Tryz.prog 58 [lv] w [] (fun _:Value=>True) id (fun v=>[row 83 5 v l.length (cpsV l)]):=by
  have h':=h
  obtain ⟨a,cp,b,o,rfl,hcap,hmax,ha,hc⟩:=h
  refine gives_of_tr Tryz.func58 rfl rfl ?_
  cases a with
  | none =>
    have hl0:l = []:=by
      cases l with
      | nil=>rfl
      | cons x r=>exact absurd (ha (by simp [cps])) (by simp)
    subst hl0
    (refine s_r ?_;refine a_s rfl rfl ?_;refine n_t ?_;refine tr_seq ?_;refine s_r ?_;refine m_v rfl rfl ?_;refine tr_val (rk_eqNil (.of rfl) (.of rfl)) rfl ?_;refine n_t ?_;refine tr_cond_t (.of rfl) ?_;refine s_r ?_;refine a_s rfl rfl ?_;refine n_t ?_;refine r_t ?_)
    refine tr_rowNil 83 5 ?_
    first | with_reducible apply tr_retM | with_reducible apply tr_endM
    case he=>exact ends1 rfl rfl
    case hR=>
      intro w' hm'
      exact gives_end (.slice none 0 0) trivial (show Takes _ [row 83 5 (.slice none 0 0) 0 []] _ by exact .cons .here .nil) hm' rfl
  | some ad =>
    (refine s_r ?_;refine a_s rfl rfl ?_;refine n_t ?_;refine tr_seq ?_;refine s_r ?_;refine m_v rfl rfl ?_;refine tr_val (rk_eqNil (.of rfl) (.of rfl)) rfl ?_;refine n_t ?_;refine tr_cond_f (.of rfl) ?_;refine s_t ?_;refine s_r ?_)
    with_reducible apply tr_new
    case hr=>exact rk_build0
    case hd=>rfl
    intro bq hbq
    refine m_v rfl rfl ?_
    refine tr_rowLitE (g:=bq) (E:=83) (ys:=[]) 0 5 (by exact .here) rfl rfl rfl ?_
    with_reducible apply tr_appendR
    case hx=>exact Is.of rfl
    case hy=>exact Is.of rfl
    case ht=>exact .here
    case hsrc=>exact fun w' hm'=>h'.keeps hm'.keeps
    case h1=>exact cps_one l
    case hz=>exact rfl
    case hsz=>exact rfl
    case hb0=>exact rfl
    case hb=>rw [cps_length];omega
    case hd=>rfl
    intro v'
    rw [cps_length,← cps_flat,Nat.zero_add,List.nil_append]
    (refine a_s rfl rfl ?_;refine n_t ?_;refine tr_ret ?_)
    first | with_reducible apply tr_retM | with_reducible apply tr_endM
    case he=>exact ends1 rfl rfl
    case hR=>
      intro w' hm'
      exact gives_end v' trivial (show Takes _ [row 83 5 v' l.length (cpsV l)] _ by exact .cons .here .nil) hm' rfl
theorem flat_at5 {l:List Cp} {j:Nat} (h:j < l.length):((cps l).flatten.drop (j * 5)).take 5 = (l[j]).cells:=by
  apply List.ext_getElem?
  intro t
  by_cases ht:t < 5
  · rw [List.getElem?_take_of_lt ht,List.getElem?_drop]
    have e2:((l[j]).cells)[t]? = some (((l[j]).cells)[t]'(by exact ht)):=List.getElem?_eq_getElem (by exact ht)
    rw [e2]
    exact flatten_get (sz:=5) (cps l) j (cps_sz _) (cps_get h) e2
  · rw [List.getElem?_eq_none (by rw [List.length_take];omega),List.getElem?_eq_none (by show 5 ≤ t;omega)]
theorem shown_l {lv:Value} {l:List Cp} {n:Int} {w:World} (h:Rd w lv 5 (cps l)) (hk:CapOk l):GivesV Tryz.prog 61 [lv,.int .i64 n] w (.agg #[.string (strB (rowB l n 0)),.string (strB (rowB l n 1)),.string (strB (rowB l n 2)),.string (strB (rowB l n 3)),.string (strB (rowB l n 4)),.string (strB (rowB l n 5)),.string (strB (rowB l n 6)),.string (strB (rowB l n 7))]):=shown_c h hk
theorem chB_lit (l:List Cp) (x:Int):(!(decide (strB (rowB l x 0) = strB (rowB l (x - 1) 0)) && (decide (strB (rowB l x 1) = strB (rowB l (x - 1) 1)) && (decide (strB (rowB l x 2) = strB (rowB l (x - 1) 2)) && (decide (strB (rowB l x 3) = strB (rowB l (x - 1) 3)) && (decide (strB (rowB l x 4) = strB (rowB l (x - 1) 4)) && (decide (strB (rowB l x 5) = strB (rowB l (x - 1) 5)) && (decide (strB (rowB l x 6) = strB (rowB l (x - 1) 6)) && (decide (strB (rowB l x 7) = strB (rowB l (x - 1) 7)) && true))))))))) = chB l x:=by
  unfold chB
  rw [decide_not]
  congr 1
  rw [Bool.eq_iff_iff]
  simp only [Bool.and_eq_true,decide_eq_true_eq,and_true]
  show _ ↔ [strB (rowB l x 0),strB (rowB l x 1),strB (rowB l x 2),strB (rowB l x 3),strB (rowB l x 4),strB (rowB l x 5),strB (rowB l x 6),strB (rowB l x 7)] = [strB (rowB l (x - 1) 0),strB (rowB l (x - 1) 1),strB (rowB l (x - 1) 2),strB (rowB l (x - 1) 3),strB (rowB l (x - 1) 4),strB (rowB l (x - 1) 5),strB (rowB l (x - 1) 6),strB (rowB l (x - 1) 7)]
  simp only [List.cons.injEq,and_true]
theorem endB_top {l:List Cp} (h:CapOk l) {n:Int} (he:endB l n = true):n ≤ 10000000:=by
  unfold endB at he
  rw [List.any_eq_true] at he
  obtain ⟨x,hx,h2⟩:=he
  obtain ⟨k,hk,rfl⟩:=List.getElem_of_mem hx
  have:=(h.ok k hk).sp
  rw [nthC_get hk] at this
  simp at h2
  omega
def chX (l:List Cp):List Int:=if capE l = 0 then (chL l).map fun (n:Nat)=>(n:Int) else []
set_option maxHeartbeats 2000000 in
theorem changes_c {lv:Value} {l:List Cp} {w:World} (h:Rd w lv 5 (cps l)) (hs:∀ x ∈ l,x.tx.size ≤ 1000000000) :
    Gives Tryz.prog 22 [lv] w [] (fun _:Value=>True) (fun v=>.tuple #[v,.int .i64 (capE l)]) (fun v=>[row 3 1 v (chX l).length (intgV (chX l))]):=by
  refine gives_of_tr Tryz.func22 rfl rfl ?_
  unfold chX
  (refine s_r ?_;refine a_s rfl rfl ?_;refine a_s rfl rfl ?_;refine n_t ?_;refine tr_seq ?_;refine s_r ?_;refine m_v rfl rfl ?_;refine tr_callV (rk_call (.of rfl) (.cons (.of rfl) .nil) inferInstance normc_) rfl (fun w' hm'=>(chkCaps_c (Rd.keeps h (Mem.keeps hm')) hs)) ?_;refine a_s rfl rfl ?_;refine n_r ?_;refine m_v rfl rfl ?_;refine tr_val (rk_neq (.of rfl) (.of rfl)) rfl ?_;refine n_t ?_;refine c_d rfl (fun hcd=>?_) (fun hcd=>?_);refine s_r ?_;refine m_v rfl rfl ?_;refine a_s rfl rfl ?_;refine a_s rfl rfl ?_;refine n_t ?_;refine r_t ?_;rotate_left;refine s_t ?_;refine s_r ?_;rotate_right)
  · rw [if_neg hcd]
    refine tr_rowNil 3 1 ?_
    first | with_reducible apply tr_retM | with_reducible apply tr_endM
    case he=>exact ends2 rfl rfl rfl
    case hR=>
      intro w' hm'
      exact gives_end (.slice none 0 0) trivial (show Takes _ [row 3 1 (.slice none 0 0) 0 []] _ by exact .cons .here .nil) hm' rfl
  have hz:=Decidable.not_not.1 hcd
  have hk:=capE_zero.1 hz
  have hfew:=hk.few
  rw [if_pos hz,hz]
  clear hcd
  with_reducible apply tr_makeMapI
  case hd=>rfl
  intro bm hbm
  (refine a_s rfl rfl ?_;refine n_r ?_;refine m_v rfl rfl ?_)
  with_reducible apply tr_call
  case hr=>exact rk_call (.of rfl) (.cons (.of rfl) .nil) inferInstance normc_
  case hd=>rfl
  case ht=>exact Takes.nil
  case hc=>
    intro w1 fp hm1 _ hs1
    obtain rfl:fp = []:=hs1
    exact cloneC_c (h.keeps hm1.keeps) (by omega)
  intro v6 _
  dsimp only [id_eq,List.cons_append,List.nil_append]
  (refine a_s rfl rfl ?_;refine n_r ?_;refine m_v rfl rfl ?_)
  with_reducible apply tr_call (As:=[row 83 5 v6 l.length (cpsV l)])
  case hr=>exact rk_call (.of rfl) (.cons (.of rfl) (.cons (.of rfl) .nil)) inferInstance normc_
  case hd=>rfl
  case ht=>exact .cons .here .nil
  case hc=>exact fun w1 fp hm1 _ hs1=>sortF_c rfl (by omega) hs1
  intro l' hp
  dsimp only [List.cons_append,List.nil_append]
  have hll:=hp.length_eq
  (refine n_t ?_;refine tr_seq ?_;refine s_r ?_;refine m_v rfl rfl ?_)
  refine tr_rowSl (E:=83) (sz:=5) (v:=v6) (by exact .here) fun a6 c6 e=>?_
  subst e
  (refine tr_val (rk_len_slice (.of rfl)) rfl ?_;refine m_v rfl rfl ?_;refine n_t ?_;refine tr_block ?_)
  refine tr_for (ι:=Nat × List (Int × Value)) (fun x=>x.1 ≤ l.length ∧ EndM l' x.1 x.2 ∧ x.2.length ≤ 2 * x.1) (fun x=>[(23,.int .i64 (x.1:Nat)),(22,.int .i64 l.length),(21,.slice a6 l.length c6),(5,.map (some bm)),(0,lv)]) (fun x=>[row 83 5 (.slice a6 l.length c6) l.length (cpsV l'),mp (fun n:Int=>Value.int .i64 n) bm x.2]) (fun x=>l.length - x.1) ?_ ?_
  · apply tr_start (0,[]) ⟨Nat.zero_le _,EndM.zero _,Nat.zero_le _⟩
    case hs1=>exact .cons rfl (.cons rfl (.cons rfl (.cons rfl (.cons rfl .nil))))
    case ht=>exact .cons .here (.cons .here .nil)
  rintro ⟨j,m⟩ ⟨hj,hE,hml⟩
  dsimp only at hj hE hml ⊢
  by_cases hlt:j < l.length
  · have hlt':j < l'.length:=by omega
    (refine s_r ?_;refine tr_val (rk_lss (.of rfl) (.of rfl)) rfl ?_;refine n_t ?_;refine tr_seq ?_;refine c_d rfl (fun hcd=>?_) (fun _=>by omega);refine s_t ?_;refine tr_seq ?_;refine tr_block ?_;refine s_r ?_)
    refine tr_rowOpen (E:=83) (sz:=5) (by exact .here) (show 0 < l.length by omega) ?_
    rintro g2 cap2 cur2 e hcap2 hmx2 hsz2 hxl2
    cases e
    have hcl:cellsAt (cpsV l'++cur2) (j * 5) 5 = (l'[j]).cells:=by
      rw [cellsAt_app (by rw [cpsV_len];omega),cps_flat,cellsAt_eq]
      exact flat_at5 hlt'
    have hnx:=fun (a b:Int) (u v:Value) hab=>hE.next (a:=a) (b:=b) hlt' u v hab
    generalize l'[j] = x at hcl hnx
    have hc5:x.cells.length = 5:=rfl
    unfold Cp.cells at hcl hc5
    (refine tr_val (rk_indexAddr (.of rfl) (.of rfl) rfl (by omega) hcd norm1_) rfl ?_;refine tr_val (rk_loadB (.of rfl) .here hcl rfl) rfl ?_;refine tr_new (rk_alloc rfl) rfl (fun _ _=>?_);refine tr_store (.of rfl) (.of rfl) .here rfl rfl (okc_cons rfl (okc_cons rfl (okc_cons rfl (okc_cons rfl (okc_cons rfl okc_nil))))) (lenb rfl) norm_ ?_;refine n_t ?_)
    with_reducible refine tr_left 10 rfl ?_
    (refine left_take 0 rfl kr_ kr_ kr_ (fun w ρ=>rfl) (fun w=>(rk_move (.of rfl))) rfl ?_;refine left_take 1 rfl kr_ kr_ kr_ (fun w ρ=>rfl) (fun w=>(rk_fieldAddr (.of rfl) norm0_)) rfl ?_;refine left_take 2 rfl kr_ kr_ kr_ (fun w ρ=>rfl) (fun w=>(rk_fieldAddr (.of rfl) norm0_)) rfl ?_;refine left_take 4 rfl kr_ kr_ kr_ (fun w ρ=>rfl) (fun w=>(rk_move (.of rfl))) rfl ?_;refine left_take 5 rfl kr_ kr_ kr_ (fun w ρ=>rfl) (fun w=>(rk_fieldAddr (.of rfl) norm0_)) rfl ?_;refine left_take 6 rfl kr_ kr_ kr_ (fun w ρ=>rfl) (fun w=>(rk_fieldAddr (.of rfl) norm0_)) rfl ?_)
    refine left_ready (rs:=[3,7]) (by kernel_rfl) (by simp) (List.forall_mem_cons.2 ⟨?_,List.forall_mem_cons.2 ⟨?_,fun _ h=>absurd h List.not_mem_nil⟩⟩)
    · refine next_step rfl ?_
      (refine tr_val (rk_load1 (.of rfl) (At.lit .here rfl)) rfl ?_;refine n_t ?_)
      refine left_ready (rs:=[7,8]) (by kernel_rfl) (by simp) (List.forall_mem_cons.2 ⟨?_,List.forall_mem_cons.2 ⟨?_,fun _ h=>absurd h List.not_mem_nil⟩⟩)
      · refine next_step rfl ?_
        (refine tr_val (rk_load1 (.of rfl) (At.lit .here rfl)) rfl ?_;refine n_t ?_)
        refine left_ready (rs:=[8]) (by kernel_rfl) (by simp) (List.forall_mem_cons.2 ⟨?_,fun _ h=>absurd h List.not_mem_nil⟩)
        refine next_step rfl ?_
        refine tr_mapUpdate keyI (.of rfl) (.of rfl) (.of rfl) (.there (.there .here)) ?_
        (refine n_t ?_)
        refine left_ready (rs:=[9]) (by kernel_rfl) (by simp) (List.forall_mem_cons.2 ⟨?_,fun _ h=>absurd h List.not_mem_nil⟩)
        refine next_step rfl ?_
        refine tr_mapUpdate keyI (.of rfl) (.of rfl) (.of rfl) .here ?_
        (refine n_t ?_)
        with_reducible refine left_done (by kernel_rfl) ?_
        (refine tr_blk_normal ?_;refine tr_then ?_;refine tr_region ?_;refine tr_val (rk_add (.of rfl) (.of rfl) (ini (by omega))) rfl ?_;refine m_v rfl rfl ?_;refine n_t ?_)
        refine tr_rowShut (E:=83) (n:=l.length) (cap:=c6) (sz:=5) (cur:=cur2) (xs:=cpsV l') (by exact Take.there (.there .here)) hcap2 hmx2 hsz2 hxl2 ?_
        apply tr_next (j + 1,aset x.to (.bool true) (aset x.fr (.bool true) m)) ⟨show j + 1 ≤ l.length by omega,hnx _ _ _ _ (.inl ⟨rfl,rfl⟩),Nat.le_trans (aset_len _ _ _) (by have:=aset_len x.fr (.bool true) m;omega)⟩ (show l.length - (j + 1) < l.length - j by omega)
        case hs1=>exact .cons rfl (.cons rfl (.cons rfl (.cons rfl (.cons rfl .nil))))
        case ht=>exact .cons .here (.cons .here .nil)
      · refine next_step rfl ?_
        refine tr_mapUpdate keyI (.of rfl) (.of rfl) (.of rfl) (.there (.there .here)) ?_
        (refine n_t ?_)
        refine left_ready (rs:=[7]) (by kernel_rfl) (by simp) (List.forall_mem_cons.2 ⟨?_,fun _ h=>absurd h List.not_mem_nil⟩)
        refine next_step rfl ?_
        (refine tr_val (rk_load1 (.of rfl) (At.lit (.there .here) rfl)) rfl ?_;refine n_t ?_)
        refine left_ready (rs:=[9]) (by kernel_rfl) (by simp) (List.forall_mem_cons.2 ⟨?_,fun _ h=>absurd h List.not_mem_nil⟩)
        refine next_step rfl ?_
        refine tr_mapUpdate keyI (.of rfl) (.of rfl) (.of rfl) .here ?_
        (refine n_t ?_)
        with_reducible refine left_done (by kernel_rfl) ?_
        (refine tr_blk_normal ?_;refine tr_then ?_;refine tr_region ?_;refine tr_val (rk_add (.of rfl) (.of rfl) (ini (by omega))) rfl ?_;refine m_v rfl rfl ?_;refine n_t ?_)
        refine tr_rowShut (E:=83) (n:=l.length) (cap:=c6) (sz:=5) (cur:=cur2) (xs:=cpsV l') (by exact Take.there (.there .here)) hcap2 hmx2 hsz2 hxl2 ?_
        apply tr_next (j + 1,aset x.to (.bool true) (aset x.fr (.bool true) m)) ⟨show j + 1 ≤ l.length by omega,hnx _ _ _ _ (.inl ⟨rfl,rfl⟩),Nat.le_trans (aset_len _ _ _) (by have:=aset_len x.fr (.bool true) m;omega)⟩ (show l.length - (j + 1) < l.length - j by omega)
        case hs1=>exact .cons rfl (.cons rfl (.cons rfl (.cons rfl (.cons rfl .nil))))
        case ht=>exact .cons .here (.cons .here .nil)
    · refine next_step rfl ?_
      (refine tr_val (rk_load1 (.of rfl) (At.lit .here rfl)) rfl ?_;refine n_t ?_)
      refine left_ready (rs:=[3]) (by kernel_rfl) (by simp) (List.forall_mem_cons.2 ⟨?_,fun _ h=>absurd h List.not_mem_nil⟩)
      refine next_step rfl ?_
      (refine tr_val (rk_load1 (.of rfl) (At.lit .here rfl)) rfl ?_;refine n_t ?_)
      refine left_ready (rs:=[8]) (by kernel_rfl) (by simp) (List.forall_mem_cons.2 ⟨?_,fun _ h=>absurd h List.not_mem_nil⟩)
      refine next_step rfl ?_
      refine tr_mapUpdate keyI (.of rfl) (.of rfl) (.of rfl) (.there (.there .here)) ?_
      (refine n_t ?_)
      refine left_ready (rs:=[9]) (by kernel_rfl) (by simp) (List.forall_mem_cons.2 ⟨?_,fun _ h=>absurd h List.not_mem_nil⟩)
      refine next_step rfl ?_
      refine tr_mapUpdate keyI (.of rfl) (.of rfl) (.of rfl) .here ?_
      (refine n_t ?_)
      with_reducible refine left_done (by kernel_rfl) ?_
      (refine tr_blk_normal ?_;refine tr_then ?_;refine tr_region ?_;refine tr_val (rk_add (.of rfl) (.of rfl) (ini (by omega))) rfl ?_;refine m_v rfl rfl ?_;refine n_t ?_)
      refine tr_rowShut (E:=83) (n:=l.length) (cap:=c6) (sz:=5) (cur:=cur2) (xs:=cpsV l') (by exact Take.there (.there .here)) hcap2 hmx2 hsz2 hxl2 ?_
      apply tr_next (j + 1,aset x.to (.bool true) (aset x.fr (.bool true) m)) ⟨show j + 1 ≤ l.length by omega,hnx _ _ _ _ (.inl ⟨rfl,rfl⟩),Nat.le_trans (aset_len _ _ _) (by have:=aset_len x.fr (.bool true) m;omega)⟩ (show l.length - (j + 1) < l.length - j by omega)
      case hs1=>exact .cons rfl (.cons rfl (.cons rfl (.cons rfl (.cons rfl .nil))))
      case ht=>exact .cons .here (.cons .here .nil)
  · obtain rfl:j = l.length:=by omega
    have hE':EndM l' l'.length m:=by rw [hll];exact hE
    (refine s_r ?_;refine tr_val (rk_lss (.of rfl) (.of rfl)) rfl ?_;refine n_t ?_;refine tr_seq ?_;refine c_d rfl (fun _=>by omega) (fun hcd=>?_);refine x_t ?_;refine tr_then_exit ?_;refine tr_blk_exit ?_;refine tr_then ?_;refine s_r ?_;refine a_s rfl rfl ?_;refine n_t ?_;refine tr_seq ?_;refine s_r ?_;refine m_v rfl rfl ?_)
    refine tr_mpOpen (kv:=fun n:Int=>Value.int .i64 n) (by exact Take.there .here) fun es ck hmp=>?_
    with_reducible apply tr_new
    case hr=>
      with_reducible apply rk_rangeM
      case hx=>exact Is.of rfl
      case ht=>exact .here
    case hd=>rfl
    intro bi hbi
    (refine n_t ?_;refine tr_block ?_)
    refine tr_rowNil 3 1 ?_
    refine tr_for (ι:=Array Nat × List Int × Value) (fun x=>FndM l es x.1 x.2.1 ∧ x.2.1.length + (leftOf es x.1).size ≤ 64) (fun x=>[(37,.pointer (some ⟨bi,0,none⟩)),(9,x.2.2),(0,lv)]) (fun x=>[blk bi (.mapIter (some bm) ck x.1 ck),blk bm (.map es ck),row 3 1 x.2.2 x.2.1.length (intgV x.2.1)]) (fun x=>(leftOf es x.1).size) ?_ ?_
    · apply tr_start (#[],[],.slice none 0 0) ⟨FndM.zero l es,by
        have h1:es.toList.length = m.length:=by
          have:=congrArg List.length hmp.eq
          rwa [List.length_map,List.length_map] at this
        have h2:=Array.size_filter_le (p:=fun e:MapEntry=>!(#[]:Array Nat).contains e.born) (xs:=es)
        have h3:(leftOf es #[]).size ≤ es.size:=h2
        rw [Array.length_toList] at h1
        show 0 + (leftOf es #[]).size ≤ 64
        omega⟩
      case hs1=>exact .cons rfl (.cons rfl (.cons rfl .nil))
      case ht=>
        show Takes _ [blk bi (.mapIter (some bm) ck #[] ck),blk bm (.map es ck),row 3 1 (.slice none 0 0) 0 []] _
        exact .cons (.there .here) (.cons (.there .here) (.cons .here .nil))
    rintro ⟨seen,out,v9⟩ ⟨hF,hbd⟩
    dsimp only at hF hbd ⊢
    (refine s_r ?_)
    with_reducible apply tr_nextM
    case hx=>exact Is.of rfl
    case hd=>rfl
    case ht=>exact .here
    case ht2=>exact .here
    case hold=>exact hmp.lt
    case hsc=>exact Nat.le_refl _
    case hck=>exact Nat.le_refl _
    case k0=>
      intro hall
      have hmem:=hF.all hmp hE' hp hall
      have hso:=ch_sorted hk hF.nd hmem
      (refine tr_val (rk_extract (.of rfl) rfl) rfl ?_;refine n_t ?_;refine tr_seq ?_;refine tr_cond_f (.of rfl) ?_;refine x_t ?_;refine tr_then_exit ?_;refine tr_blk_exit ?_;refine tr_then ?_;refine s_r ?_;refine m_v rfl rfl ?_)
      with_reducible apply tr_call (As:=[row 3 1 v9 out.length (intgV out)])
      case hr=>exact rk_call (.of rfl) (.cons (.of rfl) .nil) inferInstance normc_
      case hd=>rfl
      case ht=>exact .cons (.there (.there .here)) .nil
      case hc=>exact fun w1 fp hm1 _ hs1=>sort_c rfl (by omega) hs1
      intro u _
      dsimp only [List.cons_append,List.nil_append]
      (refine n_r ?_;refine m_v rfl rfl ?_;refine a_s rfl rfl ?_;refine a_s rfl rfl ?_;refine n_t ?_;refine tr_ret ?_)
      rw [← srt_len out,hso]
      first | with_reducible apply tr_retM | with_reducible apply tr_endM
      case he=>exact ends2 rfl rfl rfl
      case hR=>
        intro w' hm'
        exact gives_end v9 trivial (by exact .cons .here .nil) hm' rfl
    case k1=>
      intro e he hns
      obtain ⟨x,hxk,hke⟩:=ent_int hmp he
      have hex:endB l x = true:=by
        have:=(hE'.mem x).1 hxk
        rwa [List.take_length,endB_perm hp] at this
      have hx0:=endB_pos hk hex
      have hx1:=endB_top hk hex
      have hnext:=hF.next hmp hE'.nd he hns hke
      have hshr:=left_shrinks es seen e (left_mem he hns)
      (refine tr_val (rk_extract (.of rfl) rfl) rfl ?_;refine n_t ?_;refine tr_seq ?_;refine tr_cond_t (.of rfl) ?_;refine s_t ?_;refine tr_block ?_;refine s_r ?_)
      with_reducible apply tr_val
      case hr=>
        with_reducible apply rk_entry
        case hx=>exact Is.of rfl
        case ht=>exact .here
        case ht2=>exact .here
        case he=>exact he
        case hn=>exact hmp.nd
      case hd=>rfl
      rw [hke]
      have hch:=chB_lit l x
      (refine tr_val (rk_extract (.of rfl) rfl) rfl ?_;refine a_s rfl rfl ?_;refine n_r ?_;refine m_v rfl rfl ?_;refine m_v rfl rfl ?_;refine tr_callV (rk_call (.of rfl) (.cons (.of rfl) (.cons (.of rfl) .nil)) inferInstance normc_) rfl (fun w' hm'=>(shown_l (Rd.keeps h (Mem.keeps hm')) hk)) ?_;refine m_v rfl rfl ?_;refine m_v rfl rfl ?_;refine tr_val (rk_sub (.of rfl) (.of rfl) (ini (by omega))) rfl ?_;refine tr_callV (rk_call (.of rfl) (.cons (.of rfl) (.cons (.of rfl) .nil)) inferInstance normc_) rfl (fun w' hm'=>(shown_l (Rd.keeps h (Mem.keeps hm')) hk)) ?_;refine tr_val (rk_neqA (.of rfl) (.of rfl) (okL_string (okL_string (okL_string (okL_string (okL_string (okL_string (okL_string (okL_string okL_nil)))))))) rfl) rfl ?_;refine n_t ?_;refine c_b rfl (fun hcd=>?_) (fun hcd=>?_);refine tr_region ?_;refine m_v rfl rfl ?_;refine m_v rfl rfl ?_;refine tr_new (rk_sliceLit (.cons (.of rfl) .nil) rfl rfl rfl rfl) rfl (fun _ _=>?_);rotate_left;refine tr_skip ?_;refine tr_blk_normal ?_;refine tr_then ?_;rotate_right)
      · have hc:chB l x = true:=by
          rw [← hch]
          simp only [Bool.not_eq_true',Bool.and_eq_false_iff,decide_eq_false_iff_not]
          exact hcd
        rw [hc,if_pos rfl] at hnext
        have hav:intgV (out++[x]) = intgV out++[.int .i64 x]:=by rw [intgV_app];rfl
        have hal:(out++[x]).length = out.length + 1:=by simp
        refine tr_appendB (.of rfl) (.of rfl) (.there (.there (.there .here))) .here norm_ (by rfl) (okc_cons rfl okc_nil) (by rfl) (by rfl) (by rfl) lenx_ (by rfl) ?_
        intro v8
        (refine a_s rfl rfl ?_;refine tr_nil ?_;refine tr_blk_normal ?_;refine tr_then ?_)
        apply tr_next (seen.push e.born,out++[x],v8) ⟨hnext,by show (out++[x]).length + (leftOf es (seen.push e.born)).size ≤ 64;omega⟩ hshr
        case hs1=>exact .cons rfl (.cons rfl (.cons rfl .nil))
        case ht=>
          show Takes _ [blk bi (.mapIter (some bm) ck (seen.push e.born) ck),blk bm (.map es ck),row 3 1 v8 (out++[x]).length (intgV (out++[x]))] _
          rw [hal,hav]
          exact .cons (.there (.there .here)) (.cons (.there (.there .here)) (.cons .here .nil))
      · have hc:chB l x = false:=by
          rw [← hch]
          simpa using hcd
        rw [hc,if_neg (by decide),List.append_nil] at hnext
        apply tr_next (seen.push e.born,out,v9) ⟨hnext,by show out.length + (leftOf es (seen.push e.born)).size ≤ 64;omega⟩ hshr
        case hs1=>exact .cons rfl (.cons rfl (.cons rfl .nil))
        case ht=>exact .cons .here (.cons .here (.cons .here .nil))
end Go.Proofs.A1
