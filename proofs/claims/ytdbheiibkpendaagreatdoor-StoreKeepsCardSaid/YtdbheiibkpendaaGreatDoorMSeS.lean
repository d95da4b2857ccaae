/- Contracts of the library (the keys of a map, sorted) at this translation, laid by a tool of the kit. -/
import Derived.Shelf.SlGeneric
import Derived.Shelf.SlIterI.Nil
import Derived.Shelf.SortM.Plain
import Derived.Shelf.SortM.SortNone
import Derived.Ground.GgzProg
import Derived.Ground.SlgmProg
import Derived.Test.YtdbheiibkpendaaGreatDoorProg
import Derived.Test.YtdbheiibkpendaaGreatDoorSeA
import Derived.Test.YtdbheiibkpendaaGreatDoorSeG0
import Derived.Test.YtdbheiibkpendaaGreatDoorGwI
import Derived.Maps.RangeWalk
import Derived.WalkKit
namespace Go.Proofs
open Go.Shelf
set_option maxRecDepth 100000
def Tryz.keysA_ren:Go.Shelf.Ren:=⟨fun|7=>72|10=>87|n=>n,fun|23=>70|26=>3|3=>96|28=>119|0=>0|27=>118|33=>101|4=>4|n=>n,fun|n=>n⟩
theorem Tryz.keysA:Go.Proofs.SlLaysZI.n7 Tryz.prog Tryz.keysA_ren:={
 mixed:=by kernel_rfl
 f7:=⟨Tryz.f72.name,by decide,Tryz.func72.trans (congrArg some (by kernel_rfl))⟩
 f10:=⟨Tryz.f87.name,by decide,Tryz.func87.trans (congrArg some (by kernel_rfl))⟩
 t0:=Tryz.underlying0
 a0:=Tryz.isAgg0
 z0:=Tryz.sizeOf0
 v0:=Tryz.zeroValue0
 t4:=Tryz.underlying4
 a4:=Tryz.isAgg4
 z4:=Tryz.sizeOf4
 v4:=Tryz.zeroValue4
 t23:=Tryz.underlying70
 a23:=Tryz.isAgg70
 z23:=Tryz.sizeOf70
 v23:=Tryz.zeroValue70
 t26:=Tryz.underlying3
 a26:=Tryz.isAgg3
 z26:=Tryz.sizeOf3
 v26:=Tryz.zeroValue3
 t27:=Tryz.underlying118
 a27:=Tryz.isAgg118
 z27:=Tryz.sizeOf118
 v27:=Tryz.zeroValue118
 t28:=Tryz.underlying119
 a28:=Tryz.isAgg119
 z28:=Tryz.sizeOf119
 v28:=Tryz.zeroValue119
 t33:=Tryz.underlying101
 a33:=Tryz.isAgg101
 z33:=Tryz.sizeOf101
 v33:=Tryz.zeroValue101}
def Tryz.sortedA_ren:Go.Shelf.Ren:=⟨fun|6=>71|8=>85|9=>86|11=>96|13=>98|12=>97|23=>111|24=>112|14=>102|15=>103|16=>104|17=>105|18=>106|19=>107|20=>108|21=>109|22=>110|25=>113|26=>114|27=>115|28=>116|29=>117|30=>118|31=>119|n=>n,fun|26=>3|28=>119|24=>65|0=>0|3=>3|37=>40|48=>129|50=>180|4=>4|40=>171|39=>170|45=>176|5=>5|9=>9|51=>181|55=>185|57=>187|58=>188|33=>101|n=>n,fun|n=>n⟩
theorem Tryz.sortedA:Go.Proofs.SlLaysZI.n6 Tryz.prog Tryz.sortedA_ren:={
 mixed:=by kernel_rfl
 f6:=⟨Tryz.f71.name,by decide,Tryz.func71.trans (congrArg some (by kernel_rfl))⟩
 f8:=⟨Tryz.f85.name,by decide,Tryz.func85.trans (congrArg some (by kernel_rfl))⟩
 f11:=⟨Tryz.f96.name,by decide,Tryz.func96.trans (congrArg some (by kernel_rfl))⟩
 t0:=Tryz.underlying0
 a0:=Tryz.isAgg0
 z0:=Tryz.sizeOf0
 v0:=Tryz.zeroValue0
 t24:=Tryz.underlying65
 a24:=Tryz.isAgg65
 z24:=Tryz.sizeOf65
 v24:=Tryz.zeroValue65
 t26:=Tryz.underlying3
 a26:=Tryz.isAgg3
 z26:=Tryz.sizeOf3
 v26:=Tryz.zeroValue3
 t28:=Tryz.underlying119
 a28:=Tryz.isAgg119
 z28:=Tryz.sizeOf119
 v28:=Tryz.zeroValue119
 i26:=by kernel_rfl}
def Tryz.sortA_ren:Go.Shelf.Ren:=⟨fun|5=>86|8=>98|7=>97|19=>111|20=>112|10=>102|11=>103|12=>104|13=>105|14=>106|15=>107|16=>108|17=>109|18=>110|30=>113|31=>114|32=>115|33=>116|34=>117|35=>118|40=>119|n=>n,fun|23=>65|25=>3|3=>3|32=>40|22=>65|0=>0|44=>129|46=>180|4=>4|36=>171|35=>170|41=>176|5=>5|9=>9|53=>181|57=>185|63=>187|64=>188|n=>n,fun|n=>n⟩
theorem Tryz.sortA:Go.Proofs.SlLaysM.n5 Tryz.prog Tryz.sortA_ren:={
 mixed:=by kernel_rfl
 f5:=⟨Tryz.f86.name,by decide,Tryz.func86.trans (congrArg some (by kernel_rfl))⟩
 f7:=⟨Tryz.f97.name,by decide,Tryz.func97.trans (congrArg some (by kernel_rfl))⟩
 f8:=Tryz.func98.trans (congrArg some (by kernel_rfl))
 f10:=⟨Tryz.f102.name,by decide,Tryz.func102.trans (congrArg some (by kernel_rfl))⟩
 f11:=⟨Tryz.f103.name,by decide,Tryz.func103.trans (congrArg some (by kernel_rfl))⟩
 f12:=⟨Tryz.f104.name,by decide,Tryz.func104.trans (congrArg some (by kernel_rfl))⟩
 f13:=⟨Tryz.f105.name,by decide,Tryz.func105.trans (congrArg some (by kernel_rfl))⟩
 f14:=⟨Tryz.f106.name,by decide,Tryz.func106.trans (congrArg some (by kernel_rfl))⟩
 f15:=⟨Tryz.f107.name,by decide,Tryz.func107.trans (congrArg some (by kernel_rfl))⟩
 f16:=⟨Tryz.f108.name,by decide,Tryz.func108.trans (congrArg some (by kernel_rfl))⟩
 f17:=⟨Tryz.f109.name,by decide,Tryz.func109.trans (congrArg some (by kernel_rfl))⟩
 f18:=⟨Tryz.f110.name,by decide,Tryz.func110.trans (congrArg some (by kernel_rfl))⟩
 f19:=Tryz.func111.trans (congrArg some (by kernel_rfl))
 f20:=Tryz.func112.trans (congrArg some (by kernel_rfl))
 f30:=⟨Tryz.f113.name,by decide,Tryz.func113.trans (congrArg some (by kernel_rfl))⟩
 f31:=Tryz.func114.trans (congrArg some (by kernel_rfl))
 f32:=Tryz.func115.trans (congrArg some (by kernel_rfl))
 f33:=⟨Tryz.f116.name,by decide,Tryz.func116.trans (congrArg some (by kernel_rfl))⟩
 f34:=⟨Tryz.f117.name,by decide,Tryz.func117.trans (congrArg some (by kernel_rfl))⟩
 f35:=⟨Tryz.f118.name,by decide,Tryz.func118.trans (congrArg some (by kernel_rfl))⟩
 f40:=⟨Tryz.f119.name,by decide,Tryz.func119.trans (congrArg some (by kernel_rfl))⟩
 t0:=Tryz.underlying0
 a0:=Tryz.isAgg0
 z0:=Tryz.sizeOf0
 v0:=Tryz.zeroValue0
 t3:=Tryz.underlying3
 a3:=Tryz.isAgg3
 z3:=Tryz.sizeOf3
 v3:=Tryz.zeroValue3
 t4:=Tryz.underlying4
 a4:=Tryz.isAgg4
 z4:=Tryz.sizeOf4
 v4:=Tryz.zeroValue4
 t5:=Tryz.underlying5
 a5:=Tryz.isAgg5
 z5:=Tryz.sizeOf5
 v5:=Tryz.zeroValue5
 t9:=Tryz.underlying9
 a9:=Tryz.isAgg9
 z9:=Tryz.sizeOf9
 v9:=Tryz.zeroValue9
 t22:=Tryz.underlying65
 a22:=Tryz.isAgg65
 z22:=Tryz.sizeOf65
 v22:=Tryz.zeroValue65
 t23:=Tryz.underlying65
 a23:=Tryz.isAgg65
 z23:=Tryz.sizeOf65
 v23:=Tryz.zeroValue65
 t25:=Tryz.underlying3
 a25:=Tryz.isAgg3
 z25:=Tryz.sizeOf3
 v25:=Tryz.zeroValue3
 t32:=Tryz.underlying40
 a32:=Tryz.isAgg40
 z32:=Tryz.sizeOf40
 v32:=Tryz.zeroValue40
 t35:=Tryz.underlying170
 a35:=Tryz.isAgg170
 z35:=Tryz.sizeOf170
 v35:=Tryz.zeroValue170
 t36:=Tryz.underlying171
 a36:=Tryz.isAgg171
 z36:=Tryz.sizeOf171
 v36:=Tryz.zeroValue171
 t41:=Tryz.underlying176
 a41:=Tryz.isAgg176
 z41:=Tryz.sizeOf176
 v41:=Tryz.zeroValue176
 t44:=Tryz.underlying129
 a44:=Tryz.isAgg129
 z44:=Tryz.sizeOf129
 v44:=Tryz.zeroValue129
 t46:=Tryz.underlying180
 a46:=Tryz.isAgg180
 z46:=Tryz.sizeOf180
 v46:=Tryz.zeroValue180
 t53:=Tryz.underlying181
 a53:=Tryz.isAgg181
 z53:=Tryz.sizeOf181
 v53:=Tryz.zeroValue181
 t57:=Tryz.underlying185
 a57:=Tryz.isAgg185
 z57:=Tryz.sizeOf185
 v57:=Tryz.zeroValue185
 t63:=Tryz.underlying187
 a63:=Tryz.isAgg187
 z63:=Tryz.sizeOf187
 v63:=Tryz.zeroValue187
 t64:=Tryz.underlying188
 a64:=Tryz.isAgg188
 z64:=Tryz.sizeOf188
 v64:=Tryz.zeroValue188}
end Go.Proofs
/- A disk's numbers of files, rising, whatever order its map is walked in: the library's keys, sorted. -/
namespace Go.Proofs
open Go.RowKit Go.Maps Go.Sort Go.Shelf
theorem Tryz.sortsA (m:Nat):AnyZI.SortsIn Tryz.prog Tryz.sortedA_ren Fence.wide m:=
 ⟨fun blk off cap ss W hH hblk hsz=>callsIn_wide.2 (AnyM.slices_Sort_int Tryz.sortA blk off cap ss W hH hblk hsz),
  fun p cap W=>callsIn_wide.2 (AnyM.slices_Sort_int_none Tryz.sortA p cap W)⟩
set_option maxHeartbeats 1000000 in
theorem Tryz.files_run {H:Type} (b o bm nn:Nat) (D0:DataW H) (R:Value→Option (DataW H×List MemPlace)) (w:World) (hcell:w.cell? ⟨b,o+1,none⟩=some (.map (some bm))) (hown:w.ownsMap Tryz.prog 3 R bm nn D0)
  (hmax:Maps.size D0≤maxLen) (hbytes:Maps.size D0*8≤140737488355328):
  Calls Tryz.prog 38 #[.pointer (some ⟨b,o,none⟩)] w fun e w'=>∃(v:Value) (ss:List Int),e= .returned v∧ss.Perm (intKeys D0)∧
   w'.ownsRow w.heap.size 3 1 v ss.length ((ss.mergeSort (fun x y=>decide (x≤y))).map encZ)∧Below w.heap.size w w':=by
 refine(callsIn_wide (n:=6)).1 ?_
 have hbl:=hown.lt
 have hseq:SeqGives Fence.wide 2 Tryz.prog 87 #[.pointer (some ⟨w.heap.size,0,none⟩)] encZ (fun ss=>ss.Perm (intKeys D0)) (Maps.size D0) (w.alloc (.cells #[.map (some bm)] 70)):=
  AnyZI.keys_gives (ρ:=Tryz.keysA_ren) {Tryz.keysA with} Fence.wide _ trivial rfl (by omega) w.heap.size bm nn D0 _ (by simp) (by simp) (by
   obtain⟨es,clock,hb,Ft,hs,hD⟩:=hown
   exact⟨es,clock,(Below.heap_alloc _ _ bm hbl).trans hb,Ft,hs,hD⟩)
 have cK:∀mb W,CallsIn Fence.wide 5 Tryz.prog 72 #[.map mb] W fun e w'=>e= .returned (.func (.func 87) #[] #[.pointer (some ⟨W.heap.size,0,none⟩)])∧w'=W.alloc (.cells #[.map mb] 70):=fun mb W=>AnyZI.keys_in Tryz.keysA Fence.wide 5 trivial rfl mb W
 have cS:=AnyZI.sorted_in Tryz.sortedA Fence.wide 5 trivial trivial trivial trivial rfl (by omega) (Tryz.sortsA _) (enters_of Tryz.func86 (by kernel_rfl) rfl) 87 #[.pointer (some ⟨w.heap.size,0,none⟩)] trivial (enters_of Tryz.func87 (by kernel_rfl) rfl) _ _ hmax hbytes _ hseq
 change CallsIn _ _ Tryz.prog 71 _ _ _ at cS
 have hfK:Fence.wide.fn 72:=trivial
 have hfS:Fence.wide.fn 71:=trivial
 refine callsIn_of_wp Tryz.func38 rfl trivial ?_ rfl
 simp only[Tryz.ntmps38,List.size_toArray,List.length_cons,List.length_nil,Nat.reduceAdd,Nat.reduceSub,Array.replicate_succ,Array.replicate_zero,List.push_toArray,List.append_toArray,List.nil_append,List.cons_append]
 gi_wp2_with (first
  |(gi_at_call 72;refine(cK _ _).mono ?_;rintro e w' ⟨rfl,rfl⟩)
  |(gi_at_call 71;refine cS.mono ?_;rintro e w' ⟨v,ss,rfl,hS,hrow,Jr,hb⟩))
 go_ret
 exact⟨v,ss,rfl,hS,ownsRow_base_a hrow (by simp),((Below.refl _ w).alloc (Nat.le_refl _) _).trans (hb.mono (by simp))⟩
end Go.Proofs
/- How many bytes a disk's files have, in whatever order its map is walked. -/
namespace Go.Proofs
open Go.RowKit Go.Maps

/-- A file's length, as it stands in a world. -/
def Jgx (w:World) (v:Value):Option Int:=
  match v with
  | .pointer (some ⟨b,o,none⟩)=>match w.cell? ⟨b,o,none⟩ with
    |some (.slice _ n _)=>some n
    |_=>none
  |_=>none
theorem Jeg {w:World} {v:Value} {n:Int} (h:Jgx w v=some n):∃b o ad m c,v= .pointer (some ⟨b,o,none⟩)∧w.cell? ⟨b,o,none⟩=some (.slice ad m c)∧n=m:=by
  unfold Jgx at h
  split at h
  · rename_i b o
    split at h
    · rename_i ad m c hc
      exact⟨b,o,ad,m,c,rfl,hc,(Option.some.inj h).symm⟩
    ·cases h
  ·cases h
def Ji0 {H:Type} (w:World) (v:Value):Option (DataW H×List MemPlace):=(Jgx w v).map fun n=>(.lit (.int .i64 n),[])

/-- What has come: of those that are not left. -/
def Jdb (E:List (Lit×Int)) (left:Lit→Bool):Int:=(E.map fun p=>if left p.1=true then 0 else p.2).sum

theorem JfV {α:Type}:∀l:List α,(l.map fun _=>(0:Int)).sum=0
  |[]=>rfl
  |_::r=>by simp only[List.map_cons,List.sum_cons,JfV r];rfl
theorem JgJ {E:List (Lit×Int)} {left:Lit→Bool} {kl:Lit} {n:Int} (hd:E.Pairwise fun p q=>p.1≠q.1) (hs:∀p∈E,(p.1.sameKey kl=true↔p.1=kl)) (hm:(kl,n)∈E) (hl:left kl=true):
    Jdb E (fun z=>left z&& !z.sameKey kl)=Jdb E left+n:=by
  induction E with
  |nil=>cases hm
  | cons a r ih=>
    obtain⟨h1,h2⟩:=List.pairwise_cons.1 hd
    simp only[Jdb,List.map_cons,List.sum_cons]
    rcases List.mem_cons.1 hm with rfl|hm'
    · have hsk:(kl.sameKey kl)=true:=(hs (kl,n) (by simp)).2 rfl
      have hr:(r.map fun p=>if(left p.1&& !p.1.sameKey kl)=true then(0:Int) else p.2)=r.map fun p=>if left p.1=true then 0 else p.2:=List.map_congr_left fun p hp=>by
        have:¬p.1.sameKey kl=true:=fun h=>h1 p hp ((hs p (by simp[hp])).1 h).symm
        simp[this]
      rw[hr]
      simp only[hsk,hl]
      simp
      omega
    · have:=ih h2 (fun p hp=>hs p (by simp[hp])) hm'
      simp only[Jdb] at this
      rw[this]
      have hne:¬a.1.sameKey kl=true:=fun h=>h1 _ hm' ((hs a (by simp)).1 h)
      simp[hne]
      omega

theorem JdY (a b:Int):IntKind.i64.wrap (IntKind.i64.wrap a+b)=IntKind.i64.wrap (a+b):=by
  simp only[IntKind.wrap]
  simp[IntKind.bits,IntKind.signed]
  omega

theorem Jh3 (a:Int):wrap64 a=IntKind.i64.wrap a:=by
  simp only[IntKind.wrap,wrap64]
  simp[IntKind.bits,IntKind.signed]
  omega

set_option maxRecDepth 100000 in
set_option maxHeartbeats 1000000 in
theorem Tryz.used_run {H:Type} (b o bm nn:Nat) (E:List (Lit×Int)) (w:World) (hcell:w.cell? ⟨b,o+1,none⟩=some (.map (some bm)))
    (hown:w.ownsMap (H:=H) Tryz.prog 3 (Ji0 w) bm nn (.map (E.map fun p=>(p.1,.lit (.int .i64 p.2))))) (hd:E.Pairwise fun p q=>p.1≠q.1) (hs:∀kl,∀p∈E,(p.1.sameKey kl=true↔p.1=kl)):
    Calls Tryz.prog 66 #[.pointer (some ⟨b,o,none⟩)] w fun e w'=>e= .returned (.int .i64 (IntKind.i64.wrap (E.map (·.2)).sum))∧Below w.heap.size w w':=by
  have law3:Keyed Tryz.prog 3:=int_keyed Tryz.underlying3
  have hbl:=hown.lt
  go_enter Tryz.func66,Tryz.ntmps66
  go_wp2_with (first
    |(at_range;refine wpList_range_own _ rfl _ 70 rfl 3 96 law3 Tryz.underlying70 _ bm nn _ rfl hown ?_;intro w0 hrg0 hg0 hs0)
    |go_in)
  go_frame
  go_loopw [3] (fun acc wr=>∃(left:Lit→Bool) (cnt:Nat),wr.ranges Tryz.prog 3 (Ji0 w) bm w.heap.size nn (.map (E.map fun p=>(p.1,DataW.lit (H:=H) (.int .i64 p.2)))) left cnt∧
      acc= .int .i64 (IntKind.i64.wrap (Jdb E left))∧(∀kl,left kl=true→∃n,(kl,n)∈E)∧Below w.heap.size w wr)
    (fun _ wr=>wr.rangeLeft bm w.heap.size)
  case atStart=>
    refine⟨_,_,hrg0,?_,fun kl hkl=> ?_,?_⟩
    · have:Jdb E (Maps.has (.map (E.map fun p=>(p.1,DataW.lit (H:=H) (.int .i64 p.2)))))=0:=by
        have hall:∀p∈E,Maps.has (.map (E.map fun p=>(p.1,DataW.lit (H:=H) (.int .i64 p.2)))) p.1=true:=fun p hp=>
          List.any_eq_true.2 ⟨(p.1,.lit (.int .i64 p.2)),List.mem_map.2 ⟨p,hp,rfl⟩,(hs p.1 p hp).2 rfl⟩
        have:(E.map fun p=>if Maps.has (.map (E.map fun p=>(p.1,DataW.lit (H:=H) (.int .i64 p.2)))) p.1=true then(0:Int) else p.2)=E.map fun _=>0:=List.map_congr_left fun p hp=>by rw[if_pos (hall p hp)]
        unfold Jdb
        rw[this]
        exact JfV E
      rw[this];rfl
    · obtain⟨p,hp,hpk⟩:=List.any_eq_true.1 hkl
      obtain⟨q,hq,rfl⟩:=List.mem_map.1 hp
      exact⟨q.2,by rw[←(hs kl q hq).1 hpk];exact hq⟩
    ·exact⟨hg0.os,hg0.tape,hg0.output,hg0.size,fun k hk=>hg0.block k hk (by simp)⟩
  case round=>
    obtain⟨left,cnt,hrg,hacc,hleft,hbel⟩:=hrel
    subst hacc
    go_wp2_with (first
      |(at_next;refine wpList_next_ranges (α:=Int) (β:=Nat×Nat) _ rfl _ rfl 3 law3 (Ji0 w) (Value.int .i64) (fun c=> .pointer (some ⟨c.1,c.2,none⟩)) (fun key kl hkey=>by obtain⟨x,rfl,_⟩:=Maps.keyOf_int_inv Tryz.underlying3 hkey;exact⟨x,rfl⟩)
          (fun v y hv=>by obtain⟨n,hn,_⟩:=Option.map_eq_some_iff.1 hv;obtain⟨bf,of,ad,m,c,rfl,_⟩:=Jeg hn;exact⟨(bf,of),rfl⟩) bm w.heap.size nn _ _ _ rfl hrg ?_ ?_)
      |go_in)
    · intro hc0 hl0
      go_wp2
      go_ret
      have:Jdb E left=(E.map (·.2)).sum:=by
        unfold Jdb
        congr 1
        exact List.map_congr_left fun p _=>by rw[hl0 p.1];simp
      rw[this]
      exact⟨rfl,hbel⟩
    · intro x c1 c2 kl y yp w1 cnt1 hkey hlk hv hat hrg1 hlt hg1 hs1 hen
      obtain⟨n,hn,hy⟩:=Option.map_eq_some_iff.1 hv
      simp only[Prod.mk.injEq] at hy
      obtain⟨hy,_⟩:=hy
      obtain⟨bf,of,ad,m,cp,hce,hcf,hnm⟩:=Jeg hn
      simp only[Value.pointer.injEq,Option.some.injEq,Addr.mk.injEq,and_true] at hce
      obtain⟨rfl,rfl⟩:=hce
      have hbf:c1<w.heap.size:=by
        rcases Nat.lt_or_ge c1 w.heap.size with h|h
        ·exact h
        · have h2:w.heap[c1]? =none:=Array.getElem?_eq_none h
          simp only[World.cell?,h2] at hcf
          cases hcf
      have hb1:∀k,k<w.heap.size→w1.heap[k]? =w.heap[k]? :=fun k hk=>
        (hg1.block k (Nat.lt_of_lt_of_le hk hbel.size) (fun e=>by simp only[Option.some.injEq] at e;omega)).trans (hbel.block k hk)
      have hcf1:w1.cell? ⟨c1,c2,none⟩=some (.slice ad m cp):=(World.cell?_of_block (w:=w) (hb1 c1 hbf)).trans hcf
      have hbel1:Below w.heap.size w w1:=⟨hg1.os.trans hbel.os,hg1.tape.trans hbel.tape,hg1.output.trans hbel.output,Nat.le_trans hbel.size hg1.size,hb1⟩
      obtain⟨n0,hn0⟩:=hleft kl hlk
      have hE : (kl,n)∈E:=by
        -- what stands at that key
        have h1:=hat (.lit (.int .i64 0))
        have h2 :∀(F:List (Lit×Int)),(F.Pairwise fun p q=>p.1≠q.1)→(∀p∈F,(p.1.sameKey kl=true↔p.1=kl))→(kl,n0)∈F→(DataW.map (F.map fun p=>(p.1,DataW.lit (H:=H) (.int .i64 p.2)))).atKey kl (.lit (.int .i64 0))= .lit (.int .i64 n0):=by
          intro F
          induction F with
          |nil=>intro _ _ h;cases h
          | cons q r ih=>
            intro g1 g2 g3
            obtain⟨k1,k2⟩:=List.pairwise_cons.1 g1
            simp only[DataW.atKey,List.map_cons,List.find?_cons]
            rcases List.mem_cons.1 g3 with rfl|g3
            ·rw[(g2 (kl,n0) (by simp)).2 rfl]
            · have hne:q.1.sameKey kl=false:=by
                cases hq:q.1.sameKey kl with
                |false=>rfl
                |true=>exact absurd ((g2 q (by simp)).1 hq) (k1 _ g3)
              rw[hne]
              exact ih k2 (fun p hp=>g2 p (by simp[hp])) g3
        have h3:=h2 E hd (hs kl) hn0
        rw[h1,←hy] at h3
        simp only[DataW.lit.injEq,Lit.int.injEq,true_and] at h3
        rw[h3];exact hn0
      have hsum:=JgJ hd (hs kl) hE hlk
      subst hnm
      clear hcf hn hv hat hb1 hy
      go_wp2
      go_roundw
      case rel=>
        refine⟨_,cnt1,hrg1,?_,fun kl' hkl'=>hleft kl' ?_,hbel1⟩
        · rw[hsum,←JdY]
          simp only[Jh3]
        ·simp only[Bool.and_eq_true] at hkl';exact hkl'.1
      case measure=>rw[hrg1.left_eq,hrg.left_eq];exact hlt
end Go.Proofs
/- The two functions over maps come to their plain functions' answers. -/
namespace Go.Gw
open Go.RowKit
end Go.Gw
namespace Go.Proofs.Se
open Go Go.Gw D Go.MapKept Go.Maps Go.Sort Go.RowKit
theorem JiS {w:World} {s:Value} {H:AH} {d:MV} (hA:Ar w s H) (h1:d.isP=true) (h2:AH.ok H d 1 1=true) (h3:AH.isMap H (AH.rd H d 1)=true):
  ∃b o bm es clock,d.den s= .pointer (some ⟨b,o,none⟩)∧w.cell? ⟨b,o+1,none⟩=some (.map (some bm))∧w.heap[bm]? =some (.map es clock)∧
   es.toList.map (fun e=>(e.key,e.val))=(AH.at H (AH.rd H d 1).ob).ents.map (fun p=>(Value.int .i64 p.1,p.2.den s))∧(∀e∈es.toList,e.born<clock)∧es.toList.Pairwise (fun x y=>x.born≠y.born):=by
 obtain⟨b,o,c,ty,e1,e2,e3,e4,e5,e6,e7⟩:=QM hA h2 (Nat.le_refl 1)
 obtain⟨bm,es,clock,m1,m2,m3,m4,m5,m6,m7,m8⟩:=JfQ hA h3
 have h0:=e7 0 (by omega)
 rw[Nat.add_zero,Nat.add_zero,m1] at h0
 have hd:∃o',d.den s= .pointer (some ⟨b,o',none⟩)∧o=o'+1:=by
  cases d with
  | ptr i off=>
   simp only[MV.den] at e1 ⊢
   simp only[MV.ix,MV.ob] at e6 e3
   have hob:=hA.obj i (WN e4)
   have hlv:(AH.at H i).live=true:=e4
   have hsk:∃b1 o1,(YG s i= .pointer (some ⟨b1,o1,none⟩)∨∃n cap,YG s i= .slice (some ⟨b1,o1,none⟩) n cap):=by
    cases ho:AH.at H i with
    |cells ty l=>rw[ho] at hob;obtain⟨b2,q1,_⟩:=hob;exact⟨b2,0,.inl q1⟩
    |row e sz l=>
     rw[ho] at hob
     obtain⟨n,_,_,⟨q1,_⟩|⟨b2,off2,cap,c2,q1,_⟩⟩:=hob
     ·rw[q1] at e3;cases e3
     ·exact⟨b2,off2,.inr ⟨n,cap,q1⟩⟩
    |map l=>rw[ho] at hob;obtain⟨b2,es2,cl,q1,_⟩:=hob;rw[q1] at e1;simp[JM] at e1
    |dead=>rw[ho] at hlv;cases hlv
   obtain⟨b1,o1,hs|⟨n,cap,hs⟩⟩:=hsk
   ·rw[hs] at e1 e6
    simp only[JM,Jn,Value.pointer.injEq,Option.some.injEq,Addr.mk.injEq,and_true] at e1
    exact⟨o1+off,by rw[hs];simp[JM,Jn,e1.1],by omega⟩
   ·rw[hs] at e1 e6
    simp only[JM,Jn,Value.pointer.injEq,Option.some.injEq,Addr.mk.injEq,and_true] at e1
    exact⟨o1+off,by rw[hs];simp[JM,Jn,e1.1],by omega⟩
  |_=>cases h1
 obtain⟨o',hd,rfl⟩:=hd
 exact⟨b,o',bm,es,clock,hd,by rw[cell_of_row w b _ c ty (0,0) e2];exact h0,m3,m6,m7,m8⟩
theorem Jin {H:Type} {w:World} {l:List (Int×MV)} {s:Value} {bm clock:Nat} {es:Array MapEntry} (hm:w.heap[bm]? =some (.map es clock)) (he:es.toList.map (fun e=>(e.key,e.val))=l.map (fun p=>(Value.int .i64 p.1,p.2.den s)))
  (hc:∀e∈es.toList,e.born<clock) (hb:es.toList.Pairwise (fun x y=>x.born≠y.born)) (hk:JcI l):
  ∃D0:DataW H,w.ownsMap Tryz.prog 3 (fun _=>some (.nil,[])) bm es.size D0∧(intKeys D0).Perm (l.map (·.1))∧Maps.size D0=l.length:=by
 obtain⟨k1,k2,k3⟩:=hk
 have hlen:es.size=l.length:=by have:=congrArg List.length he;simpa using this
 have hkeys:es.toList.map (·.key)=l.map fun p=>Value.int .i64 p.1:=by
  have:=congrArg (List.map Prod.fst) he
  simpa[List.map_map,Function.comp_def] using this
 have hkey:∀e∈es.toList,∃x,e.key= .int .i64 x∧(Lit.int .i64 x).wf=true:=fun e h=>by
  have:e.key∈es.toList.map (·.key):=List.mem_map.2 ⟨e,h,rfl⟩
  rw[hkeys] at this
  obtain⟨p,hp,hpe⟩:=List.mem_map.1 this
  exact⟨p.1,hpe.symm,k2 p.1 (List.mem_map.2 ⟨p,hp,rfl⟩)⟩
 have hrd:∀e∈es.toList,∀x,e.key= .int .i64 x→(Lit.int .i64 x).wf=true→WideElems.rd (H:=H) Tryz.prog 3 (fun _=>some (.nil,[])) e=some (.int .i64 x,.nil):=fun e _ x hx hw=>by
  obtain⟨ky,vl,bn⟩:=e
  simp only at hx
  subst hx
  exact WideElems.rd_mk (R:=fun _=>some (.nil,[])) (yv:=(.nil,[])) (Maps.keyOf_int_mk Tryz.underlying3 hw) rfl
 have hfit:WideElems.Fit (H:=H) Tryz.prog 3 (fun _=>some (.nil,[])) es clock:=by
  refine⟨by rw[hlen];simp only[maxLen];omega,(stamped_iff es clock).2 ⟨hc,?_,?_⟩,fun e h=> ?_⟩
  ·simp only[List.Nodup,List.pairwise_map];exact hb
  ·have:(es.toList.map (·.key)).Nodup:=by
    rw[hkeys]
    have:=k1
    simp only[List.Nodup,List.pairwise_map] at this ⊢
    exact this.imp fun h e=>h (by simpa using e)
   simp only[List.Nodup,List.pairwise_map] at this
   exact this
  ·obtain⟨x,hx,hw⟩:=hkey e h
   exact⟨_,hrd e h x hx hw⟩
 refine⟨_,⟨es,clock,hm,hfit,Nat.le_refl _,rfl⟩,?_,?_⟩
 ·simp only[intKeys]
  refine((WideShapes.sorted_perm _).map _).trans ?_
  rw[List.map_map]
  have:es.toList.map ((fun p:Lit×DataW H=>Go.intOf p.1)∘WideElems.rg Tryz.prog 3 fun _=>some (.nil,[]))=es.toList.map fun e=>(match e.key with| .int _ x=>x|_=>0):=List.map_congr_left fun e h=>by
   obtain⟨x,hx,hw⟩:=hkey e h
   simp only[Function.comp_apply,WideElems.rg_of (hrd e h x hx hw),hx,Go.intOf]
  rw[this]
  have h2:es.toList.map (fun e=>(match e.key with| .int _ x=>x|_=>(0:Int)))=(es.toList.map (·.key)).map fun v=>(match v with| .int _ x=>x|_=>(0:Int)):=by rw[List.map_map];rfl
  rw[h2,hkeys,List.map_map]
  exact List.Perm.refl _
 ·simp only[Maps.size,length_sorted,List.length_map,Array.length_toList,hlen]
theorem WE (H_0:AH) (d:MV) (r:List Int) (h:Vu H_0 d=some r):CallOk P 38 [.v (.one (.slc 9001))] [(9000,.arena false [] H_0),(9001,.apt 9000 d)] (.v (.one (.slc 8900))) [(8900,.own 3 .i64 r)]:=by
 unfold Vu at h
 obtain⟨⟨c1,c2,c3,c4⟩,h⟩:=Jo h
 have h:=Option.some.inj h
 subst h
 intro B γ w hp hap hok ht h1
 have hA:Ar w (γ 9000) H_0:=(hp (9000,.arena false [] H_0) (by simp)).1
 have hd:γ 9001=d.den (γ 9000):=(hp (9001,.apt 9000 d) (by simp)).1
 generalize hPP:(P:Program)=P1
 obtain⟨b,o,bm,es,clock,e1,e2,e3,e4,e5,e6⟩:=JiS hA c1 c2 c3
 obtain⟨D0,f1,f2,f3⟩:=Jin (H:=Unit) e3 e4 e5 e6 c4
 have hlen:=c4.2.2
 subst hPP
 have hrun:=Tryz.files_run b o bm es.size D0 _ w e2 f1 (by rw[f3];simp only[maxLen];omega) (by rw[f3];omega)
 unfold RunOk
 have hargs:([SV.v (.one (.slc 9001))].map (SV.den γ)).toArray= #[.pointer (some ⟨b,o,none⟩)]:=by
  simp[SV.den,V1.den,Leaf.cells,hd,e1]
 rw[Vf Tryz.func38 (by kernel_rfl) rfl,hargs]
 refine hrun.mono ?_
 rintro e w' ⟨v,ss,rfl,g1,g2,g3⟩
 have hs:ss.mergeSort (fun x y=>decide (x≤y))=JbR (AH.at H_0 (AH.rd H_0 d 1).ob).ents:=by
  unfold JbR
  exact mergeSort_of_perm_i (g1.trans f2)
 rw[hs] at g2
 have hl:ss.length=(JbR (AH.at H_0 (AH.rd H_0 d 1).ob).ents).length:=by rw[←hs,List.length_mergeSort]
 rw[hl] at g2
 have hblk:∀b',Jw v=some b'→w.heap.size≤b':=fun b' hb'=>by
  rcases g2.2 with⟨q,_⟩|⟨g,cap,cur,q,q1,_⟩
  ·rw[q] at hb';cases hb'
  ·rw[q] at hb';simp only[Jw,Option.some.injEq] at hb';omega
 have Jz:v.oneCell'=true:=by
  rcases g2.2 with⟨q,_⟩|⟨g,cap,cur,q,q1,_⟩<;>rw[q]<;>rfl
 have g2':w'.ownsRow 0 3 1 v (JbR (AH.at H_0 (AH.rd H_0 d 1).ob).ents).length ((JbR (AH.at H_0 (AH.rd H_0 d 1).ob).ents).map (Value.int .i64)):=⟨g2.1,by
  rcases g2.2 with q|⟨g,cap,cur,q,_,q2⟩
  ·exact .inl q
  ·exact .inr ⟨g,cap,cur,q,Nat.zero_le _,q2⟩⟩
 refine⟨v,rfl,fun κ=>if κ=8900 then v else γ κ,fun κ hκ=> ?_,fun κ=> ?_,by simp[SV.den,V1.den,Leaf.cells],⟨trivial,trivial⟩,⟨g3.os,g3.tape,g3.output,g3.size,fun k hk _=>g3.block k hk⟩,fun p hp'=> ?_,fun p hp' q hq hne=> ?_⟩
 ·by_cases hk:κ=8900
  ·obtain⟨q,hq,hqe⟩:=hκ (8900,_) (List.mem_singleton.2 rfl) hk.symm
   simp only[List.mem_cons,List.not_mem_nil,or_false] at hq
   rcases hq with rfl|rfl<;>(rw [hk] at hqe;cases hqe)
  ·simp[hk]
 ·by_cases hk:κ=8900
  ·simp only[hk,if_true];exact Jz
  ·simp only[hk,if_false];exact h1 κ
 ·simp only[List.mem_cons,List.not_mem_nil,or_false] at hp'
  subst hp'
  refine⟨⟨by simpa using g2',fun b' hb'=> .inl (hblk b' (by simpa using hb'))⟩,fun b' hb'=> .inl (hblk b' (by simpa[Ent.foot] using hb'))⟩
 ·simp only[List.mem_cons,List.not_mem_nil,or_false] at hp' hq
  subst hp';subst hq
  exact absurd rfl hne
theorem it2 {α:Type} {p0 p1:Prop} [Decidable p0] [Decidable p1] {x:Option α} {r:α} (h:(if p0 then if p1 then x else none else none)=some r):p0∧p1∧x=some r:=by
 obtain⟨a,h⟩:=Jo h;obtain⟨b,h⟩:=Jo h;exact⟨a,b,h⟩
theorem it3 {α:Type} {p0 p1 p2:Prop} [Decidable p0] [Decidable p1] [Decidable p2] {x:Option α} {r:α} (h:(if p0 then if p1 then if p2 then x else none else none else none)=some r):p0∧p1∧p2∧x=some r:=by
 obtain⟨a,h⟩:=Jo h;exact⟨a,it2 h⟩
theorem it4 {α:Type} {p0 p1 p2 p3:Prop} [Decidable p0] [Decidable p1] [Decidable p2] [Decidable p3] {x:Option α} {r:α} (h:(if p0 then if p1 then if p2 then if p3 then x else none else none else none else none)=some r):p0∧p1∧p2∧p3∧x=some r:=by
 obtain⟨a,h⟩:=Jo h;exact⟨a,it3 h⟩
theorem it5 {α:Type} {p0 p1 p2 p3 p4:Prop} [Decidable p0] [Decidable p1] [Decidable p2] [Decidable p3] [Decidable p4] {x:Option α} {r:α} (h:(if p0 then if p1 then if p2 then if p3 then if p4 then x else none else none else none else none else none)=some r):p0∧p1∧p2∧p3∧p4∧x=some r:=by
 obtain⟨a,h⟩:=Jo h;exact⟨a,it4 h⟩
theorem it6 {α:Type} {p0 p1 p2 p3 p4 p5:Prop} [Decidable p0] [Decidable p1] [Decidable p2] [Decidable p3] [Decidable p4] [Decidable p5] {x:Option α} {r:α} (h:(if p0 then if p1 then if p2 then if p3 then if p4 then if p5 then x else none else none else none else none else none else none)=some r):p0∧p1∧p2∧p3∧p4∧p5∧x=some r:=by
 obtain⟨a,h⟩:=Jo h;exact⟨a,it5 h⟩
theorem it7 {α:Type} {p0 p1 p2 p3 p4 p5 p6:Prop} [Decidable p0] [Decidable p1] [Decidable p2] [Decidable p3] [Decidable p4] [Decidable p5] [Decidable p6] {x:Option α} {r:α} (h:(if p0 then if p1 then if p2 then if p3 then if p4 then if p5 then if p6 then x else none else none else none else none else none else none else none)=some r):p0∧p1∧p2∧p3∧p4∧p5∧p6∧x=some r:=by
 obtain⟨a,h⟩:=Jo h;exact⟨a,it6 h⟩
theorem it8 {α:Type} {p0 p1 p2 p3 p4 p5 p6 p7:Prop} [Decidable p0] [Decidable p1] [Decidable p2] [Decidable p3] [Decidable p4] [Decidable p5] [Decidable p6] [Decidable p7] {x:Option α} {r:α} (h:(if p0 then if p1 then if p2 then if p3 then if p4 then if p5 then if p6 then if p7 then x else none else none else none else none else none else none else none else none)=some r):p0∧p1∧p2∧p3∧p4∧p5∧p6∧p7∧x=some r:=by
 obtain⟨a,h⟩:=Jo h;exact⟨a,it7 h⟩
theorem Jjg {a b:List Int} (h:a.Perm b):a.sum=b.sum:=by
 induction h with
 |nil=>rfl
 |cons x _ ih=>simp only[List.sum_cons,ih]
 |swap x y l=>simp only[List.sum_cons];omega
 |trans _ _ h1 h2=>exact h1.trans h2
theorem JdD {w:World} {s:Value} {H:AH} {v:MV} (hA:Ar w s H) (h:Jei H v):Jgx w (v.den s)=some ((AH.rd H v 0).len:Int):=by
 obtain⟨h1,h2,h3⟩:=h
 obtain⟨b,o,c,ty,e1,e2,e3,e4,e5,e6,e7⟩:=QM hA h2 (Nat.le_refl 1)
 rw[QK h1] at e1
 have h0:=e7 0 (by omega)
 rw[Nat.add_zero,Nat.add_zero] at h0
 obtain⟨ad,cap,g1,g2,g3⟩:=Yq hA h3 (by omega) (Jmd hA v 0)
 rw[g1] at h0
 unfold Jgx
 rw[e1]
 simp only[cell_of_row w b o c ty (0,0) e2,h0]
theorem Ja1 (H_0:AH) (d:MV) (r:Int) (h:WS H_0 d=some r):CallOk P 66 [.v (.one (.slc 9001))] [(9000,.arena false [] H_0),(9001,.apt 9000 d)] (.v (.one (.int .i64 r))) []:=by
 unfold WS at h
 obtain⟨⟨c1,c2,c3,c4,c5⟩,h⟩:=Jo h
 have h:=Option.some.inj h
 subst h
 intro B γ w hp hap hok ht h1
 have hA:Ar w (γ 9000) H_0:=(hp (9000,.arena false [] H_0) (by simp)).1
 have hd:γ 9001=d.den (γ 9000):=(hp (9001,.apt 9000 d) (by simp)).1
 generalize hPP:(P:Program)=P1
 obtain⟨b,o,bm,es,clock,e1,e2,e3,e4,e5,e6⟩:=JiS hA c1 c2 c3
 obtain⟨k1,k2,k3⟩:=c4
 generalize hl:(AH.at H_0 (AH.rd H_0 d 1).ob).ents=l at*
 have hlen:es.size=l.length:=by have:=congrArg List.length e4;simpa using this
 have hkeys:es.toList.map (·.key)=l.map fun p=>Value.int .i64 p.1:=by
  have:=congrArg (List.map Prod.fst) e4
  simpa[List.map_map,Function.comp_def] using this
 have hent:∀e∈es.toList,∃p∈l,e.key= .int .i64 p.1∧e.val=p.2.den (γ 9000):=fun e he=>by
  have:(e.key,e.val)∈es.toList.map (fun e=>(e.key,e.val)):=List.mem_map.2 ⟨e,he,rfl⟩
  rw[e4] at this
  obtain⟨p,hp,hpe⟩:=List.mem_map.1 this
  simp only[Prod.mk.injEq] at hpe
  exact⟨p,hp,hpe.1.symm,hpe.2.symm⟩
 have hrd:∀e∈es.toList,∀p∈l,e.key= .int .i64 p.1→e.val=p.2.den (γ 9000)→WideElems.rd (H:=Unit) Tryz.prog 3 (Ji0 w) e=some (.int .i64 p.1,.lit (.int .i64 ((AH.rd H_0 p.2 0).len:Int))):=fun e _ p hp hk hv=>by
  obtain⟨ky,vl,bn⟩:=e
  simp only at hk hv
  subst hk;subst hv
  exact WideElems.rd_mk (yv:=(.lit (.int .i64 ((AH.rd H_0 p.2 0).len:Int)),[])) (Maps.keyOf_int_mk Tryz.underlying3 (k2 p.1 (List.mem_map.2 ⟨p,hp,rfl⟩))) (by unfold Ji0;rw[JdD hA (c5 p hp)];rfl)
 have hfit:WideElems.Fit (H:=Unit) Tryz.prog 3 (Ji0 w) es clock:=by
  refine⟨by rw[hlen];simp only[maxLen];omega,(stamped_iff es clock).2 ⟨e5,?_,?_⟩,fun e h=> ?_⟩
  ·simp only[List.Nodup,List.pairwise_map];exact e6
  ·have:(es.toList.map (·.key)).Nodup:=by
    rw[hkeys]
    have:=k1
    simp only[List.Nodup,List.pairwise_map] at this ⊢
    exact this.imp fun h e=>h (by simpa using e)
   simp only[List.Nodup,List.pairwise_map] at this
   exact this
  ·obtain⟨p,hp,hk,hv⟩:=hent e h
   exact⟨_,hrd e h p hp hk hv⟩
 let L:List (Lit×DataW Unit):=(es.toList.map (WideElems.rg Tryz.prog 3 (Ji0 w))).foldr DataW.insert []
 have hown:w.ownsMap Tryz.prog 3 (Ji0 w) bm es.size (.map L):=⟨es,clock,e3,hfit,Nat.le_refl _,rfl⟩
 have law3:Keyed Tryz.prog 3:=int_keyed Tryz.underlying3
 obtain⟨L',hL',hpw,hkl⟩:=hown.entries law3
 have hL':L=L':=DataW.map.inj hL'
 subst hL'
 let num:Lit×DataW Unit→Int:=fun q=>match q.2 with| .lit (.int _ n)=>n|_=>0
 have hmem:∀q∈L,∃n,q.2= .lit (.int .i64 n):=fun q hq=>by
  have:=(WideShapes.sorted_perm _).mem_iff.1 hq
  obtain⟨e,he,rfl⟩:=List.mem_map.1 this
  obtain⟨p,hp,hk,hv⟩:=hent e he
  rw[WideElems.rg_of (hrd e he p hp hk hv)]
  exact⟨_,rfl⟩
 have hLE:L=(L.map fun q=>(q.1,num q)).map fun p=>(p.1,DataW.lit (.int .i64 p.2)):=by
  rw[List.map_map]
  refine(List.map_id L).symm.trans (List.map_congr_left fun q hq=> ?_)
  obtain⟨n,hn⟩:=hmem q hq
  obtain⟨q1,q2⟩:=q
  simp only at hn
  subst hn
  rfl
 have hsum:((L.map fun q=>(q.1,num q)).map (·.2)).sum=Jjb H_0 l:=by
  rw[List.map_map]
  have h1:(L.map ((fun x:Lit×Int=>x.2)∘fun q=>(q.1,num q))).Perm ((es.toList.map (WideElems.rg Tryz.prog 3 (Ji0 w))).map num):=(WideShapes.sorted_perm _).map _
  rw[Jjg h1,List.map_map]
  unfold Jjb
  have h2:es.toList.map (num∘WideElems.rg Tryz.prog 3 (Ji0 w))=(es.toList.map (fun e=>(e.key,e.val))).map fun q=>(match Jgx w q.2 with|some n=>n|none=>0):=by
   rw[List.map_map]
   refine List.map_congr_left fun e he=> ?_
   obtain⟨p,hp,hk,hv⟩:=hent e he
   simp only[Function.comp_apply,WideElems.rg_of (hrd e he p hp hk hv),num,hv,JdD hA (c5 p hp)]
  rw[h2,e4,List.map_map]
  congr 1
  exact List.map_congr_left fun p hp=>by simp only[Function.comp_apply,JdD hA (c5 p hp)]
 rw[hLE] at hown
 subst hPP
 have hrun:=Tryz.used_run b o bm es.size _ w e2 hown (by
  rw[List.pairwise_map];exact hpw) (fun kl p hp=>by
  obtain⟨q,hq,rfl⟩:=List.mem_map.1 hp
  exact⟨WideAt.sameKey_eq,fun h=>by rw[←h];exact WideAt.sameKey_self (hkl q hq)⟩)
 rw[hsum] at hrun
 unfold RunOk
 have hargs:([SV.v (.one (.slc 9001))].map (SV.den γ)).toArray= #[.pointer (some ⟨b,o,none⟩)]:=by
  simp[SV.den,V1.den,Leaf.cells,hd,e1]
 rw[Vf Tryz.func66 (by kernel_rfl) rfl,hargs]
 refine hrun.mono ?_
 rintro e w' ⟨rfl,g3⟩
 exact⟨_,rfl,γ,fun κ _=>rfl,h1,rfl,⟨trivial,trivial⟩,⟨g3.os,g3.tape,g3.output,g3.size,fun k hk _=>g3.block k hk⟩,fun p hp'=>(by cases hp'),fun p hp'=>(by cases hp')⟩
end Go.Proofs.Se
