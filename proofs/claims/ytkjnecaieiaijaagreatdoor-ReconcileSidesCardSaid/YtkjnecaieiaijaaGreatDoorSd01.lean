/- Part 1 of a proof: what its row uses. -/
import Derived.WalkKit
import Derived.Below
import Derived.Deep.Draws
import Derived.Lib.Hide
import Derived.Maps.AppendAt
import Derived.OrdersHeld
import Derived.Laws.CopyRow
import Derived.Laws.IdiomCopy
import Derived.Deep.LoopGhost
import Derived.Laws.MakeOwn
import Derived.Test.YtkjnecaieiaijaaGreatDoorProg
import Derived.Laws.BitsAllLaws
import Derived.Laws.IdiomStrings
import Derived.Lib.AppendStr
import Derived.Lib.IndexBytes
import Derived.Sort.Walk0
import Derived.Deep.RegionHeld3
import Derived.Deep.QuietTactic
import Derived.BigQuiet
import Derived.Outline
import Derived.StillTailTactics
import Derived.Deep.RegionLaw
import Derived.WalkSpells
import Derived.WalkLawsBesides
import Derived.Stop.BytesEq
import Derived.Shelf.SlIter.Nil
import Derived.Shelf.SlIter.Sorted
import Derived.Shelf.Small.Bits
import Derived.Shelf.Strconv.Itoa0
import Derived.Shelf.Sort.Plain
import Derived.Shelf.Slices.In.SortNone
import Derived.Maps.OwnOps
import Derived.Maps.OwnSet
import Derived.Maps.Views
import Derived.StringKeys
import Derived.Defers
import Derived.Deep.DeepCutAuto
import Derived.Deep.CutBlock
import Derived.Lib.BufferWrite
import Derived.Scope
import Derived.Lib.BitFns
import Derived.LoopN
import Derived.Deep.AppendSrc
import Derived.Laws.OwnMore
import Derived.Test.YtkjnecaieiaijaaGreatDoorRows
import Derived.ProofKit
import Derived.OpenShut
import Derived.Deep.Slices
import Derived.LaidMore
import Derived.Stop.Joined
import Derived.Test.YtkjnecaieiaijaaGreatDoorTie
import Derived.Test.YtkjnecaieiaijaaGreatDoorCards
import Derived.SevenTiedAt
import Derived.ChangeMaps5
set_option maxRecDepth 100000
set_option maxHeartbeats 1000000
namespace Go.Proofs.YtkjnecaieiaijaaGreatDoor
open Go.RowKit
theorem I{α:Sort _}{a:α}:a=a:=rfl
abbrev Γ:=List UInt8
abbrev Ξ:=List Value
abbrev Λ:=World
abbrev Ω:=Value
abbrev Υ:=TypeId
abbrev Δ:=Option Addr
abbrev Θ:=@Calls Tryz.prog
theorem C3:type_of%@List.length_append:=@List.length_append
theorem C4:type_of%@List.getElem?_eq_some_iff:=@List.getElem?_eq_some_iff
theorem C7:type_of%@of_decide_eq_false:=@of_decide_eq_false
theorem D1:type_of%@List.append_assoc:=@List.append_assoc
theorem D3:type_of%@Lib.hid:=@Lib.hid
theorem D4:type_of%@of_decide_eq_true:=@of_decide_eq_true
theorem E1:type_of%@List.getElem?_eq_getElem:=@List.getElem?_eq_getElem
theorem F0:type_of%@List.mem_of_getElem?:=@List.mem_of_getElem?
theorem G2:type_of%@List.mem_singleton:=@List.mem_singleton
theorem G6:type_of%@Nat.zero_le:=@Nat.zero_le
theorem I8:type_of%@List.length_take:=@List.length_take
theorem J3:type_of%@Result.andThen_ok:=@Result.andThen_ok
theorem J7:type_of%@Nat.le_refl:=@Nat.le_refl
theorem K0:type_of%@List.length_map:=@List.length_map
theorem K7:type_of%@Nat.zero_add:=@Nat.zero_add
theorem L1:type_of%@List.eq_nil_of_length_eq_zero:=@List.eq_nil_of_length_eq_zero
theorem O4:type_of%@List.append_nil:=@List.append_nil
theorem O5:type_of%@List.take_succ_eq_append_getElem:=@List.take_succ_eq_append_getElem
theorem P1:type_of%@if_pos:=@if_pos
theorem P4:type_of%@if_neg:=@if_neg
theorem P5:type_of%@Sem.run_bind:=@Sem.run_bind
theorem P7:type_of%@List.mem_append:=@List.mem_append
theorem P8:type_of%@Nat.le_trans:=@Nat.le_trans
theorem Q7:type_of%@List.length_drop:=@List.length_drop
theorem R0:type_of%@List.take_length:=@List.take_length
theorem R1:type_of%@List.getElem?_append_left:=@List.getElem?_append_left
theorem R3:type_of%@List.flatMap_append:=@List.flatMap_append
theorem R6:type_of%@Value.slice.injEq:=@Value.slice.injEq
theorem S6:type_of%@List.take_append_drop:=@List.take_append_drop
theorem T0:type_of%@List.mem_cons:=@List.mem_cons
theorem T2:type_of%@Nat.le_of_ble_eq_true:=@Nat.le_of_ble_eq_true
theorem T5:type_of%@List.mem_flatMap:=@List.mem_flatMap
theorem T8:type_of%@List.getElem?_append_right:=@List.getElem?_append_right
theorem T9:type_of%@Sem.run_pure:=@Sem.run_pure
theorem U0:type_of%@congrArg:=@congrArg
theorem U1:type_of%@List.map_append:=@List.map_append
theorem U2:type_of%@List.take_of_length_le:=@List.take_of_length_le
theorem U3:type_of%@decide_eq_true_eq:=@decide_eq_true_eq
theorem U5:type_of%@List.getD_eq_getElem?_getD:=@List.getD_eq_getElem?_getD
theorem U6:type_of%@List.nil_append:=@List.nil_append
theorem U7:type_of%@List.not_mem_nil:=@List.not_mem_nil
theorem U8:type_of%@List.getElem?_map:=@List.getElem?_map
theorem U9:type_of%@Array.getElem?_eq_some_iff:=@Array.getElem?_eq_some_iff
theorem V0:type_of%@List.length_cons:=@List.length_cons
theorem V1:type_of%@UInt8.toNat_lt:=@UInt8.toNat_lt
theorem V2:type_of%@List.drop_eq_getElem_cons:=@List.drop_eq_getElem_cons
theorem V3:type_of%@List.set_append_right:=@List.set_append_right
theorem V4:type_of%@Option.some.injEq:=@Option.some.injEq
theorem V5:type_of%@List.flatMap_cons:=@List.flatMap_cons
theorem V6:type_of%@Bool.and_eq_true:=@Bool.and_eq_true
theorem V7:type_of%@Tryz.underlying9:=@Tryz.underlying9
theorem V8:type_of%@wpAnyH_take:=@wpAnyH_take
theorem V9:type_of%@List.take_add_one:=@List.take_add_one
theorem W4:type_of%@Nat.lt_or_ge:=@Nat.lt_or_ge
theorem W6:type_of%@Nat.sub_self:=@Nat.sub_self
theorem W7:type_of%@List.length_nil:=@List.length_nil
theorem W8:type_of%@List.getElem?_drop:=@List.getElem?_drop
theorem X0:type_of%@IntKind.wrap_u64:=@IntKind.wrap_u64
theorem X1:type_of%@Nat.mul_one:=@Nat.mul_one
theorem X2:type_of%@List.mem_cons_of_mem:=@List.mem_cons_of_mem
theorem X3:type_of%@run_underlying:=@run_underlying
theorem X4:type_of%@List.map_cons:=@List.map_cons
theorem X5:type_of%@List.take_zero:=@List.take_zero
theorem X6:type_of%@List.drop_of_length_le:=@List.drop_of_length_le
theorem X7:type_of%@List.getElem?_set_self:=@List.getElem?_set_self
theorem X8:type_of%@forall_eq_or_imp:=@forall_eq_or_imp
theorem X9:type_of%@List.nodup_append:=@List.nodup_append
theorem Y0:type_of%@Nat.min_eq_left:=@Nat.min_eq_left
theorem Y1:type_of%@Tryz.underlying35:=@Tryz.underlying35
theorem Y2:type_of%@Nat.pow_le_pow_right:=@Nat.pow_le_pow_right
theorem Y3:type_of%@List.drop_drop:=@List.drop_drop
theorem Y4:type_of%@Nat.mul_le_mul_right:=@Nat.mul_le_mul_right
theorem Y5:type_of%@List.getElem?_take_of_lt:=@List.getElem?_take_of_lt
theorem Y6:type_of%@Array.getD_eq_getD_getElem?:=@Array.getD_eq_getD_getElem?
theorem Y7:type_of%@List.getElem?_eq_none:=@List.getElem?_eq_none
theorem Y8:type_of%@List.map_nil:=@List.map_nil
theorem Y9:type_of%@List.mem_map:=@List.mem_map
theorem Z0:type_of%@Option.some.inj:=@Option.some.inj
theorem Z1:type_of%@List.map_toArray:=@List.map_toArray
theorem Z2:type_of%@List.cons_append:=@List.cons_append
theorem Z3:type_of%@IntWalk.i64_in:=@IntWalk.i64_in
theorem Z4:type_of%@Nat.add_assoc:=@Nat.add_assoc
theorem Z5:type_of%@List.take_append_of_le_length:=@List.take_append_of_le_length
theorem Z6:type_of%@List.pairwise_iff_getElem:=@List.pairwise_iff_getElem
theorem Z7:type_of%@List.set_cons_zero:=@List.set_cons_zero
theorem Z8:type_of%@World.ownsRow_made:=@World.ownsRow_made
theorem Z9:type_of%@Nat.mul_le_mul:=@Nat.mul_le_mul
theorem a6:type_of%@List.length_set:=@List.length_set
theorem a7:type_of%@Tryz.underlying5:=@Tryz.underlying5
theorem e7:type_of%@Prod.mk.injEq:=@Prod.mk.injEq
theorem j8:type_of%@Decidable.em:=@Decidable.em
theorem j9:type_of%@List.mem_cons_self:=@List.mem_cons_self
theorem k4:type_of%@or_false:=@or_false
theorem k6:type_of%@Int.toNat_natCast:=@Int.toNat_natCast
theorem k7:type_of%@List.length_replicate:=@List.length_replicate
theorem k8:type_of%@List.length_filter_le:=@List.length_filter_le
theorem k9:type_of%@Option.map_some:=@Option.map_some
theorem l0:type_of%@Nat.lt_of_lt_of_le:=@Nat.lt_of_lt_of_le
theorem l6:type_of%@Nat.eq_zero_or_pos:=@Nat.eq_zero_or_pos
theorem l8:type_of%@Nat.mod_eq_of_lt:=@Nat.mod_eq_of_lt
theorem l9:type_of%@List.mem_of_mem_take:=@List.mem_of_mem_take
theorem n9:type_of%@Region.noSelect_spec:=@Region.noSelect_spec
theorem o4:type_of%@List.pairwise_append:=@List.pairwise_append
theorem o5:type_of%@List.map_take:=@List.map_take
theorem o6:type_of%@List.takeWhile_append_dropWhile:=@List.takeWhile_append_dropWhile
theorem o8:type_of%@List.mem_iff_getElem?:=@List.mem_iff_getElem?
theorem p5:type_of%@List.mem_append_right:=@List.mem_append_right
theorem p6:type_of%@List.contains_iff_mem:=@List.contains_iff_mem
theorem p7:type_of%@Tryz.underlying186:=@Tryz.underlying186
theorem p8:type_of%@List.drop_append_of_le_length:=@List.drop_append_of_le_length
theorem p9:type_of%@u32_xor_nat:=@u32_xor_nat
theorem s6:type_of%@List.ext_getElem?:=@List.ext_getElem?
theorem s9:type_of%@List.getElem?_replicate:=@List.getElem?_replicate
theorem u0:type_of%@decide_eq_false_iff_not:=@decide_eq_false_iff_not
theorem u7:type_of%@Int.eq_ofNat_of_zero_le:=@Int.eq_ofNat_of_zero_le
theorem u9:type_of%@Bool.eq_iff_iff:=@Bool.eq_iff_iff
theorem y6:type_of%@Array.getElem?_eq_none:=@Array.getElem?_eq_none
theorem y7:type_of%@Region.free_spec:=@Region.free_spec
theorem y8:type_of%@Tryz.underlying4:=@Tryz.underlying4
theorem y9:type_of%@List.getElem_mem:=@List.getElem_mem
theorem z6:type_of%@forall_eq:=@forall_eq
theorem z8:type_of%@Nat.mod_lt:=@Nat.mod_lt
theorem AAa:type_of%@Array.getElem?_append_left:=@Array.getElem?_append_left
theorem AAb:type_of%@List.drop_zero:=@List.drop_zero
theorem AAc:type_of%@Tryz.underlying178:=@Tryz.underlying178
theorem AAd:type_of%@Nat.eq_of_beq_eq_true:=@Nat.eq_of_beq_eq_true
theorem AAe:type_of%@List.set_eq_take_append_cons_drop:=@List.set_eq_take_append_cons_drop
theorem AAf:type_of%@List.findIdx?_eq_some_iff_getElem:=@List.findIdx?_eq_some_iff_getElem
theorem AAg:type_of%@List.mem_or_eq_of_mem_set:=@List.mem_or_eq_of_mem_set
theorem AAh:type_of%@Array.getElem?_eq_getElem:=@Array.getElem?_eq_getElem
theorem AAi:type_of%@List.range_succ:=@List.range_succ
theorem AAj:type_of%@List.cons.injEq:=@List.cons.injEq
theorem AA0:type_of%@Nat.zero_mul:=@Nat.zero_mul
theorem AA1:type_of%@List.mem_of_mem_drop:=@List.mem_of_mem_drop
theorem AA2:type_of%@leaves_cons:=@leaves_cons
theorem AA3:type_of%@List.getElem?_of_mem:=@List.getElem?_of_mem
theorem AA4:type_of%@Tryz.func48:=@Tryz.func48
theorem AA5:type_of%@Bool.or_eq_false_iff:=@Bool.or_eq_false_iff
theorem AA6:type_of%@info_parts:=@info_parts
theorem AA7:type_of%@Option.isSome_iff_exists:=@Option.isSome_iff_exists
theorem AA8:type_of%@List.replicate_succ:=@List.replicate_succ
theorem AA9:type_of%@if_true:=@if_true
theorem ABa:type_of%@heap_alloc_new:=@heap_alloc_new
theorem ABb:type_of%@IntKind.wrap_i64:=@IntKind.wrap_i64
theorem ABc:type_of%@Calls.quiet_of:=@Calls.quiet_of
theorem ABd:type_of%@List.getElem?_cons_succ:=@List.getElem?_cons_succ
theorem ABe:type_of%@Tryz.underlying3:=@Tryz.underlying3
theorem ABf:type_of%@List.pairwise_singleton:=@List.pairwise_singleton
theorem ABg:type_of%@List.set_set:=@List.set_set
theorem ABh:type_of%@Tryz.underlying219:=@Tryz.underlying219
theorem ABi:type_of%@List.pairwise_cons:=@List.pairwise_cons
theorem ABj:type_of%@Tryz.results163:=@Tryz.results163
theorem AB0:type_of%@ne_of_beq_false:=@ne_of_beq_false
theorem AB1:type_of%@Array.getElem?_toList:=@Array.getElem?_toList
theorem AB2:type_of%@IntKind.wrap_u32':=@IntKind.wrap_u32'
theorem AB3:type_of%@Array.getElem?_setIfInBounds_self_of_lt:=@Array.getElem?_setIfInBounds_self_of_lt
theorem AB4:type_of%@List.take_left:=@List.take_left
theorem AB5:type_of%@List.mem_iff_getElem:=@List.mem_iff_getElem
theorem AB6:type_of%@Tryz.func11:=@Tryz.func11
theorem AB7:type_of%@Nat.add_zero:=@Nat.add_zero
theorem AB8:type_of%@List.flatMap_nil:=@List.flatMap_nil
theorem AB9:type_of%@run_bytes_of_string:=@run_bytes_of_string
theorem ACa:type_of%@List.flatten_append:=@List.flatten_append
theorem ACb:type_of%@List.mem_map_of_mem:=@List.mem_map_of_mem
theorem ACc:type_of%@List.length_pos_iff:=@List.length_pos_iff
theorem ACd:type_of%@Array.setIfInBounds_comm:=@Array.setIfInBounds_comm
theorem ACe:type_of%@Tryz.ntmps163:=@Tryz.ntmps163
theorem ACf:type_of%@Bool.or_eq_true:=@Bool.or_eq_true
theorem ACg:type_of%@List.nodup_cons:=@List.nodup_cons
theorem ACh:type_of%@Nat.lt_of_le_of_lt:=@Nat.lt_of_le_of_lt
theorem ACi:type_of%@Tryz.underlying111:=@Tryz.underlying111
theorem ACj:type_of%@Tryz.underlying104:=@Tryz.underlying104
theorem AC0:type_of%@List.getElem?_cons_zero:=@List.getElem?_cons_zero
theorem AC1:type_of%@Nat.le_succ:=@Nat.le_succ
theorem AC2:type_of%@List.append_cancel_left:=@List.append_cancel_left
theorem AC3:type_of%@Nat.ne_of_beq_eq_false:=@Nat.ne_of_beq_eq_false
theorem AC4:type_of%@List.getElem?_set:=@List.getElem?_set
theorem AC5:type_of%@Bool.not_eq_true':=@Bool.not_eq_true'
theorem AC6:type_of%@Int.ofNat_tmod:=@Int.ofNat_tmod
theorem AC7:type_of%@Tryz.func163:=@Tryz.func163
theorem AC8:type_of%@List.drop_left:=@List.drop_left
theorem AC9:type_of%@List.drop_eq_nil_of_le:=@List.drop_eq_nil_of_le
theorem ADa:type_of%@List.takeWhile_sublist:=@List.takeWhile_sublist
theorem ADb:type_of%@List.filter_eq_nil_iff:=@List.filter_eq_nil_iff
theorem ADc:type_of%@List.filter_congr:=@List.filter_congr
theorem ADd:type_of%@decide_eq_true:=@decide_eq_true
theorem ADe:type_of%@MapKept.run_getObj_map:=@MapKept.run_getObj_map
theorem ADf:type_of%@List.length_filter_eq_length_iff:=@List.length_filter_eq_length_iff
theorem ADg:type_of%@Array.getElem?_setIfInBounds_ne:=@Array.getElem?_setIfInBounds_ne
theorem ADh:type_of%@Array.getElem?_modify:=@Array.getElem?_modify
theorem ADi:type_of%@Nat.div_lt_iff_lt_mul:=@Nat.div_lt_iff_lt_mul
theorem ADj:type_of%@ready_mono:=@ready_mono
theorem AD0:type_of%@Tryz.func9:=@Tryz.func9
theorem AD1:type_of%@Bool.false_or:=@Bool.false_or
theorem AD2:type_of%@List.replicate_succ':=@List.replicate_succ'
theorem AD3:type_of%@and_true:=@and_true
theorem AD4:type_of%@List.mem_append_left:=@List.mem_append_left
theorem AD5:type_of%@Prod.ext:=@Prod.ext
theorem AD6:type_of%@Nat.div_le_self:=@Nat.div_le_self
theorem AD7:type_of%@Tryz.zeroValue9:=@Tryz.zeroValue9
theorem AD8:type_of%@Lib.wpList_append_own_string:=@Lib.wpList_append_own_string
theorem AD9:type_of%@Nat.min_le_left:=@Nat.min_le_left
theorem AEa:type_of%@List.mem_filter:=@List.mem_filter
theorem AEb:type_of%@List.drop_succ_cons:=@List.drop_succ_cons
theorem AEc:type_of%@run_firstCells_some:=@run_firstCells_some
theorem AEd:type_of%@wpList_plain:=@wpList_plain
theorem AEe:type_of%@Nat.mul_comm:=@Nat.mul_comm
theorem AEf:type_of%@bodyPost_ret:=@bodyPost_ret
theorem AEg:type_of%@Nat.add_comm:=@Nat.add_comm
theorem AEh:type_of%@Nat.le_of_eq:=@Nat.le_of_eq
theorem AEi:type_of%@Tryz.func205:=@Tryz.func205
theorem AEj:type_of%@List.map_map:=@List.map_map
theorem AE0:type_of%@Below.heap_setCell:=@Below.heap_setCell
theorem AE1:type_of%@Nat.xor_lt_two_pow:=@Nat.xor_lt_two_pow
theorem AE2:type_of%@List.mem_filterMap:=@List.mem_filterMap
theorem AE3:type_of%@List.set_cons_succ:=@List.set_cons_succ
theorem AE4:type_of%@Array.ext_getElem?:=@Array.ext_getElem?
theorem AE5:type_of%@Tryz.underlying167:=@Tryz.underlying167
theorem AE6:type_of%@List.all_takeWhile:=@List.all_takeWhile
theorem AE7:type_of%@List.filter_append:=@List.filter_append
theorem AE8:type_of%@run_part_plain:=@run_part_plain
theorem AE9:type_of%@Nat.mul_lt_mul_of_pos_left:=@Nat.mul_lt_mul_of_pos_left
theorem AFa:type_of%@UInt8.toNat_ofNat':=@UInt8.toNat_ofNat'
theorem AFb:type_of%@getD_set_ne:=@getD_set_ne
theorem AFc:type_of%@u32_and_nat:=@u32_and_nat
theorem AFd:type_of%@Tryz.underlying92:=@Tryz.underlying92
theorem AFe:type_of%@Maps.string_keyed:=@Maps.string_keyed
theorem AFf:type_of%@Tryz.func99:=@Tryz.func99
theorem AFg:type_of%@Tryz.func10:=@Tryz.func10
theorem AFh:type_of%@Tryz.ntmps108:=@Tryz.ntmps108
theorem AFj:type_of%@Tryz.ntmps171:=@Tryz.ntmps171
theorem AF0:type_of%@Tryz.ntmps187:=@Tryz.ntmps187
theorem AF3:type_of%@Below.heap_alloc:=@Below.heap_alloc
theorem AF4:type_of%@mem_ready:=@mem_ready
theorem AF6:type_of%@List.all_eq_true:=@List.all_eq_true
theorem AF7:type_of%@Tryz.underlying0:=@Tryz.underlying0
theorem AGa:type_of%@IntKind.wrap_u16:=@IntKind.wrap_u16
theorem AGb:type_of%@Oper.wp_mono:=@Oper.wp_mono
theorem AGc:type_of%@bytesLess_eq:=@bytesLess_eq
theorem AGd:type_of%@u32_or_nat:=@u32_or_nat
theorem AGe:type_of%@List.map_set:=@List.map_set
theorem AGf:type_of%@Tryz.func108:=@Tryz.func108
theorem AGg:type_of%@Tryz.sizeOf9:=@Tryz.sizeOf9
theorem AGh:type_of%@Tryz.func171:=@Tryz.func171
theorem AGi:type_of%@Tryz.func187:=@Tryz.func187
theorem AGj:type_of%@Tryz.ntmps78:=@Tryz.ntmps78
theorem AG0:type_of%@Tryz.func149:=@Tryz.func149
theorem AG1:type_of%@Tryz.func219:=@Tryz.func219
theorem AG2:type_of%@Tryz.func148:=@Tryz.func148
theorem AG3:type_of%@callsIn_wide:=@callsIn_wide
theorem AG5:type_of%@Int.lt_or_le:=@Int.lt_or_le
theorem AG6:type_of%@Option.map_none:=@Option.map_none
theorem AG7:type_of%@IntKind.wrap_u8:=@IntKind.wrap_u8
theorem AG8:type_of%@Int.natCast_mul:=@Int.natCast_mul
theorem AG9:type_of%@run_equalIn_int:=@run_equalIn_int
theorem AHa:type_of%@Tryz.zeroValue4:=@Tryz.zeroValue4
theorem AHb:type_of%@Tryz.zeroValue0:=@Tryz.zeroValue0
theorem AHc:type_of%@Tryz.results129:=@Tryz.results129
theorem AHd:type_of%@Tryz.results192:=@Tryz.results192
theorem AHe:type_of%@decide_eq_false:=@decide_eq_false
theorem AHf:type_of%@Tryz.results147:=@Tryz.results147
theorem AH2:type_of%@grownCap_ge:=@grownCap_ge
theorem AH4:type_of%@u64_xor_nat:=@u64_xor_nat
theorem AH6:type_of%@Tryz.isAgg9:=@Tryz.isAgg9
theorem AH8:type_of%@Tryz.func78:=@Tryz.func78
theorem AIa:type_of%@Ne.symm:=@Ne.symm
variable {A:Δ}{A2:Δ}{B:Nat}{K:Act->World->Prop}{L:Ξ}{P:Program}{Q:Exit->Act->World->Prop}{S:List Nat}{S':List Nat}{a:Act}{a0:Ω}{a2:Ω}{a3:Ω}{b:Nat}{b':Bool}{base:Nat}{base':Nat}{bs:Γ}{bt:Nat}{buf:Γ}{c:Nat}{cs:Γ}{d:Option Nat}{dT:Υ}{dst:Υ}{e:Υ}{elem:Υ}{f:FuncId}{fn:Func}{g:Nat}{h:Operand}{k:IntKind}{k':IntKind}{kd:IntKind}{kh:IntKind}{ks:IntKind}{l:Ξ}{l':Ξ}{n:Nat}{o:Oper}{o':Nat}{ops:Array Oper}{p:Prop}{q:Γ}{r:Option Nat}{s:Operand}{sT:Υ}{seg:Ξ}{src:Υ}{sz:Nat}{t:Υ}{t':Υ}{ty:Υ}{ty':Υ}{u:Υ}{v':Ω}{vs:Ξ}{w:Λ}{w':Λ}{w1:Λ}{wr:Λ}{x:Operand}{xs:Ξ}{xs':Ξ}{y:Operand}{ys:Γ}{z:Ω}{zs:Γ}{α:Type}{β:Sort _}{γ:Sort _}{ι:Type}
theorem zg(h:p:=by grind):p:=h
theorem oz(h:p:=by first | omega | (dsimp only; omega) | (show _<_; omega) | (show _<=_; omega)):p:=h
theorem su{q:Prop}(h:q)(k:q->p:=by intro h; simpa using h):p:=k h
theorem yy:∀ (j:Nat) v,l[j]?=some v->l[0+j]?=some v:=λj v h=>by rw [K7]; exact h
abbrev qa(g:Nat):Option Addr:=some ⟨g,0,none⟩
abbrev qp:Value:=.pointer none
abbrev qe:Value:=.string ⟨#[]⟩
abbrev ql(g n c:Nat):Value:=.slice (some ⟨g,0,none⟩) n c
abbrev qb(i n:Nat):Value:=.bool (decide ((i:Int)<(n:Int)))
theorem gk(l:List α)(i)(h:i<l.length):∃ x,l[i]?=some x:=⟨_,E1 h⟩
theorem J(h:p:=by kernel_rfl):p:=h
theorem U(h:p:=by omega):p:=h
theorem ag(h:p:=by assumption):p:=h
theorem si(h:p:=by simp):p:=h
theorem dV(h:p:=by first | exact (C3 ..).symm | (simp; done) | (simp; omega)):p:=h
abbrev bT:Value:=.bool true
abbrev bF:Value:=.bool false
abbrev nS:Value:=.slice none 0 0
abbrev C(z:Int):Value:=.int .i64 z
abbrev vi:=@C
section
def At(w:World)(b:Nat)(t:TypeId)(l:List Value):Prop:=w.heap[b]?=some (.cells l.toArray t (0,0))
structure Fr (S:List Nat) (w w':World):Prop where
 os:w'.os=w.os
 tape:w'.tape=w.tape
 output:w'.output=w.output
 size:w.heap.size <= w'.heap.size
 block:∀ k,k < w.heap.size -> k∉S -> w'.heap[k]?=w.heap[k]?
theorem Fr.refl(S w):Fr S w w:=⟨I,I,I,U,zg⟩
theorem Fr.trans'{a b c:Λ}(h:Fr S a b)(k:Fr S' b c)(f:∀ x,x∈S'->x∈S\/a.heap.size<=x):Fr S a c :=
 ⟨k.os.trans h.os,k.tape.trans h.tape,k.output.trans h.output,P8 h.size k.size,λi d e =>
  (k.block i (l0 d h.size) (λhm=>by
   rcases f i hm with hm | hm
   .exact e hm
   .omega)).trans (h.block i d e)⟩
theorem Fr.trans{a b c:Λ}(h:Fr S a b)(k:Fr S b c):Fr S a c:=h.trans' k zg
theorem Fr.abY{a b c:Λ}(h:Fr S a b)(k:Fr [] b c):Fr S a c:=h.trans' k zg
theorem Fr.mono{a b:Λ}(h:Fr S a b)(c:∀ x,x∈S->x∈S'\/a.heap.size<=x):Fr S' a b:=(Fr.refl S' a).trans' h c
theorem Fr.drew{a b:Λ}(h:Fr S a b):Fr S a b.drew:=⟨h.os,h.tape,h.output,h.size,h.block⟩
theorem Fr.drewN{a b:Λ}(h:Fr S a b)(n):Fr S a (b.drewN n):=⟨h.os,h.tape,h.output,h.size,h.block⟩
theorem Fr.alloc{a b:Λ}(h:Fr S a b)(o):Fr S a (b.alloc o) :=
 ⟨h.os,h.tape,h.output,P8 h.size si,λi c d=>(AF3 b o i (l0 c h.size)).trans (h.block i c d)⟩
theorem Fr.setCell{a b:Λ}(h:Fr S a b){p:Addr}(e:p.block∈S\/a.heap.size<=p.block)(u):Fr S a (b.setCell p u) :=
 ⟨h.os,h.tape,h.output,by simpa [World.setCell] using h.size,λi c d=>(AE0 b p u i (by
  grind)).trans (h.block i c d)⟩
theorem Fr.grown{a b c:Λ}{row:Option Nat}(h:Fr S a b)(d:b.grownBy c row)(j:∀ k,row=some k->k∈S\/a.heap.size<=k):Fr S a c :=
 ⟨d.os.trans h.os,d.tape.trans h.tape,d.output.trans h.output,P8 h.size d.size,λi f g =>
  (d.block i (l0 f h.size) (λe=>by
   rcases j i e.symm with hm | hm
   .exact g hm
   .omega)).trans (h.block i f g)⟩
theorem Fr.below{a b:Λ}(h:Fr S a b)(c:B<=a.heap.size)(e:∀ x,x∈S->B<=x):Below B a b :=
 ⟨h.os,h.tape,h.output,h.size,λk d=>h.block k U zg⟩
theorem Fr.abZ{a b:Λ}(h:Below a.heap.size a b)(S):Fr S a b:=⟨h.os,h.tape,h.output,h.size,λk c _=>h.block k c⟩
theorem Fr.cell{a b:Λ}(h:Fr S a b){p:Addr}(d:p.block < a.heap.size)(c:p.block∉S):b.cell? p=a.cell? p:=World.cell?_of_block (w:=a) (h.block p.block d c)
section
variable {w w':World}{b:Nat}{t:TypeId}{l:List Value}
theorem At.lt(h:At w b t l):b < w.heap.size:=by
 grind [At]
theorem At.cell(h:At w b t l)(i):w.cell? ⟨b,i,none⟩=l[i]?:=by
 grind [At,World.cell?]
theorem At.frozen(h:At w b t l)(i):w.frozen? ⟨b,i,none⟩=false:=by
 grind [At,World.frozen?]
theorem At.new(w:Λ)(t)(l:Ξ):At (w.alloc (.cells l.toArray t)) w.heap.size t l:=ABa w _
theorem At.drew(h:At w b t l):At w.drew b t l:=h
theorem At.drewN(h:At w b t l)(n):At (w.drewN n) b t l:=h
theorem At.alloc(h:At w b t l)(o):At (w.alloc o) b t l:=(AF3 w o b h.lt).trans h
theorem At.set(h:At w b t l)(i u):At (w.setCell ⟨b,i,none⟩ u) b t (l.set i u):=by
 grind [At,World.setCell]
theorem At.far(h:At w b t l){p:Addr}(a:b≠p.block)(u):At (w.setCell p u) b t l:=(AE0 w p u b a).trans h
theorem At.fr{S:List Nat}(h:At w b t l)(c:Fr S w w')(a:b∉S):At w' b t l:=(c.block b h.lt a).trans h
theorem At.ne{b':Nat}(h:At w b t l)(c:At w b' t' l')(a:t≠t'):b≠b':=by
 rintro rfl
 grind [At]
end
structure oK (B:Nat) (S:List Nat) (w w':World):Prop where
 os:w'.os=w.os
 tape:w'.tape=w.tape
 output:w'.output=w.output
 size:w.heap.size <= w'.heap.size
 block:∀ k,k < B -> k∉S -> w'.heap[k]?=w.heap[k]?
theorem oK.refl(B S w):oK B S w w:=⟨I,I,I,U,zg⟩
theorem oK.setCell{a b:Λ}(h:oK B S a b){p:Addr}(e:p.block∈S\/B<=p.block)(u):oK B S a (b.setCell p u) :=
 ⟨h.os,h.tape,h.output,by simpa [World.setCell] using h.size,λi c d=>(AE0 b p u i (by
  grind)).trans (h.block i c d)⟩
theorem oK.grown{a b c:Λ}{row:Option Nat}(h:oK B S a b)(d:b.grownBy c row)(g:B<=b.heap.size)(j:∀ k,row=some k->k∈S\/B<=k):oK B S a c :=
 ⟨d.os.trans h.os,d.tape.trans h.tape,d.output.trans h.output,P8 h.size d.size,λi e f =>
  (d.block i U zg).trans (h.block i e f)⟩
theorem Fr.BG{a b c:Λ}(h:Fr S a b)(k:oK B S' b c)(f:a.heap.size<=B)(g:∀ x,x∈S'->x∈S\/a.heap.size<=x):Fr S a c :=
 ⟨k.os.trans h.os,k.tape.trans h.tape,k.output.trans h.output,P8 h.size k.size,λi d e =>
  (k.block i U zg).trans (h.block i d e)⟩
theorem gK{a b:Bool}(h:a=b):Ending.returned (.bool a) = .returned (.bool b):=by rw [h]
theorem jK{a b:Int}(h:a=b):Ending.returned (.int k a) = .returned (.int k b):=by rw [h]
section
variable {P:Program}
theorem kB(b o j):(⟨b,o,none⟩:Addr).add j=⟨b,o+j,none⟩:=by
 grind [Addr.add]
theorem Ea(w:Λ)(b off c)(cs:Ξ)(d)(k:∀ j v,cs[j]?=some v->w.cell? ⟨b,off+j,none⟩=some v)(h:P.underlying c=some d)(l:(match d with | .struct _ | .array _ _=>true | _=>false)=true)(hi:(P.info? c).map (·.size)=some cs.length):
  (loadVar c ⟨b,off,none⟩).run P w = .ok (.agg cs.toArray) w:=by
 have e:(loadCells _ _).run P w = .ok _ w :=
  run_loadCells_list w ⟨b,off,_⟩ cs (λj v m=>by rw [kB]; grind)
 cases f:P.info? c with
 | none=>grind
 | some i =>
   have g:i.size=cs.length:=by grind
   have a:(isAgg c).run P w = .ok true w:=by
    unfold isAgg
    rw [P5,X3 h w]
    cases d <;> simp_all
   simp [loadVar,si,a,sizeOf,typeInfo,f,g,e]
theorem Qs(c x)(g:o.op = .load c x)(b off)(k:a.eval x = .pointer (some ⟨b,off,none⟩))(cs:Ξ)(d)(e:∀ j v,cs[j]?=some v->w.cell? ⟨b,off+j,none⟩=some v)(i:P.underlying c=some d)(f:(match d with | .struct _ | .array _ _=>true | _=>false)=true)(hi:(P.info? c).map (·.size)=some cs.length)(h:K (a.put o.dst (.agg cs.toArray)) w):o.wp P a w K Q:=by
 unfold Oper.wp execOp
 simp only [g,k,Instr.loadAt,Instr.sureAddr,P5,T9,J3,Ea w b off c cs d e i f hi]
 exact h
theorem qT{rest:List Oper}(e:o.guard=none)(c x)(i:o.op = .load c x)(b off)(l:a.eval x = .pointer (some ⟨b,off,none⟩))(cs:Ξ)(d)(f:∀ j v,cs[j]?=some v->w.cell? ⟨b,off+j,none⟩=some v)(k:P.underlying c=some d)(g:(match d with | .struct _ | .array _ _=>true | _=>false)=true)(hi:(P.info? c).map (·.size)=some cs.length)(h:wpList P ops Q rest (a.put o.dst (.agg cs.toArray)) w):wpList P ops Q (o::rest) a w :=
 AEd e λ_ m=>Qs c x i b off l cs d f k g hi zg
theorem Ab(t e n)(cs:Ξ)(v k i)(h:P.underlying t=some (.array n e))(g:(P.info? e).map (·.size)=some 1)(a:∀ w:Λ,(isAgg e).run P w = .ok false w)(hi:i < n)(f:cs[i]?=some v)(w):
  (Instr.index t (.agg cs.toArray) (.int k i)).run P w = .ok v w:=by
 have b:0<=(i:Int)/\(i:Int) < n:=U
 cases c:P.info? e with
 | none=>grind
 | some j =>
   have d:j.size=1:=by grind
   simp only [Instr.index,X3 h,asIntOf,sizeOf,typeInfo,P5,T9,J3]
   rw [P1 b]
   simp [part,a,sizeOf,typeInfo,c,d,f]
structure lN (P:Program) (t e:TypeId) (z:Value) (sz bt:Nat):Prop where
 ht:P.underlying t=some (.slice e)
 hi:(P.info? e).map (λi=>(i.zero,i.size,i.bytes))=some (some z,sz,bt)
 hz:z.cells.size=sz
 hp:0 < sz
 hb:bt <= 1024
def eN(w:World)(A:Option Addr)(news:List Value):Prop:=∀ j u,news[j]?=some u -> ∃ ad,A=some ad /\ w.cell? (ad.add j)=some u
theorem Qt(E:lN P t e z sz bt)(w:Λ)(a k v n xs)(b:w.ownsRow a e sz v n xs)(c):
  (Builtin.append_ #[t,t] k #[v,.slice none 0 c]).run P w = .ok v w:=by
 obtain ⟨i,f,_,_,_⟩:=AA6 E.hi
 have h:=E.ht
 rcases b.2 with ⟨rfl,rfl⟩ | ⟨g,cap,j,rfl,_,_,d,_⟩
 .simp [Builtin.append_,X3 h,sizeOf,typeInfo,f,Builtin.lenOf,Builtin.firstCells]
 .simp [Builtin.append_,X3 h,sizeOf,typeInfo,f,Builtin.lenOf,Builtin.firstCells,d,storeCells]
theorem IG(E:lN P t e z sz bt)(w:Λ)(a p v n xs)(d:w.ownsRow a e sz v n xs)(A m c)(news:Ξ)(s:news.length=m*sz)(b:eN w A news)(y:∀ u∈news,u.oneCell'=true)(g:n+m<=137438953472)(f:a<=w.heap.size):
  ∃ v' k,(Builtin.append_ #[t,t] p #[v,.slice A m c]).run P w = .ok v' k/\k.ownsRow a e sz v' (n+m) (xs++news)/\w.grownBy k v.ownBlock/\(v'.ownBlock=v.ownBlock\/v'.ownBlock=some w.heap.size):=by
 obtain ⟨i,D,L,o,l⟩:=AA6 E.hi
 have B:=E.hb
 have H:=E.hp
 have T:(n+m)*bt<=137438953472*1024:=Z9 g B
 rcases A with _ | q
 .have F:news=[]:=by
   cases news with
   | nil=>rfl
   | cons u r =>
     obtain ⟨q,h,_⟩:=b 0 u I
     cases h
  subst F
  have x:m=0:=by
   rcases l6 m with h | h
   .exact h
   .have:=Nat.mul_pos h H
    simp at s
    omega
  subst x
  exact ⟨v,w,Qt E w a p v n xs d c,by simpa using d,World.grownBy.refl w _,.inl I⟩
 .obtain ⟨v',k,N,O,Q,_,S⟩:=run_append_own_at w a t p e i z sz bt E.ht D L o l E.hz E.hp v n xs d q m c news s (λj u K=>by
   obtain U:=b j u K
   grind) y (by unfold maxLen; omega) U f
  grind
theorem IH(E:lN P t e z sz bt)(s x)(B:o.op = .call { callee:=.builtin .append,args:=#[s,x],argTypes:=#[t,t] })(b v n xs)(D:a.eval s=v)(i:w.ownsRow b e sz v n xs)(A m c)(news:Ξ)(F:a.eval x = .slice A m c)(y:news.length=m*sz)(f:eN w A news)(l:∀ u∈news,u.oneCell'=true)(g:n+m<=137438953472)(d:b<=w.heap.size)(h:∀ v' k,k.ownsRow b e sz v' (n+m) (xs++news)->w.grownBy k v.ownBlock->(v'.ownBlock=v.ownBlock\/v'.ownBlock=some w.heap.size)->K (a.put o.dst v') k):o.wp P a w K Q:=by
 obtain ⟨v',k,j,p,q,r⟩:=IG E w b o.type v n xs i A m c news y f l g d
 unfold Oper.wp execOp
 simp only [B,resolve,invoke,builtin,P5,T9,J3,Z1,X4,Y8,D,F,j]
 exact h v' k p q r
theorem xR(E:lN P t e z sz bt){rest:List Oper}(l:o.guard=none)(s x)(B:o.op = .call { callee:=.builtin .append,args:=#[s,x],argTypes:=#[t,t] })(d v n q)(D:a.eval s=v)(j:w.ownsRow d e sz v n q)(A m c)(b:Ξ)(F:a.eval x = .slice A m c)(y:b.length=m*sz)(g:eN w A b)(r:∀ u∈b,u.oneCell'=true)(i:n+m<=137438953472)(f:d<=w.heap.size)(h:∀ k p,p.ownsRow d e sz k (n+m) (q++b)->w.grownBy p v.ownBlock->(k.ownBlock=v.ownBlock\/k.ownBlock=some w.heap.size)->wpList P ops Q rest (a.put o.dst k) p):
  wpList P ops Q (o::rest) a w :=
 AEd l λ_ H=>IH E s x B d v n q D j A m c b F y g r i f zg
theorem Qu(E:lN P t e z sz bt){X:Prop}(f:o.guard=none)(s x)(r:o.op = .call { callee:=.builtin .append,args:=#[s,x],argTypes:=#[t,t] })(b v n xs)(y:a.eval s=v)(k:w.ownsRow b e sz v n xs)(A m c)(news:Ξ)(B:a.eval x = .slice A m c)(q:news.length=m*sz)(g:eN w A news)(p:∀ u∈news,u.oneCell'=true)(j:n+m<=137438953472)(d:b<=w.heap.size)(h:∀ v' i,i.ownsRow b e sz v' (n+m) (xs++news)->w.grownBy i v.ownBlock->(v'.ownBlock=v.ownBlock\/v'.ownBlock=some w.heap.size)->K (a.put o.dst v') i):
  if Region.wanted o (yielded ops a.tmps)=true then Oper.wp P o a w K Q else X:=by
 have l:Region.wanted o (yielded ops a.tmps)=true:=by simp [Region.wanted,f]
 rw [P1 l]
 grind [IH]
theorem eN.bM(h:w.ownsRow base e sz (.slice A n c) n xs):eN w A xs:=by
 intro j u a
 rcases h.2 with ⟨_,f⟩ | ⟨g,cap,d,b,_⟩
 .have:=h.1
  rw [f,AA0] at this
  rw [L1 this] at a
  simp at a
 .simp only [R6] at b
  obtain ⟨rfl,_⟩:=b
  exact ⟨_,I,h.cells I j u a⟩
theorem eN.new(w:Λ)(t)(l:Ξ):eN (w.alloc (.cells l.toArray t)) (qa w.heap.size) l:=by
 intro j u a
 refine ⟨_,I,?_⟩
 rw [kB,(At.new w t l).cell,K7]
 omega
theorem oL(E:lN P t e z 1 bt){rest:List Oper}(hgd:o.guard=none)(s x)(ho:o.op = .call { callee:=.builtin .append,args:=#[s,x],argTypes:=#[t,t] })(base v n xs)(u:Ω)(hs:a.eval s=v)(hown:w.ownsRow base e 1 v n xs)(hx:a.eval x=ql w.heap.size 1 1)(h1:u.oneCell'=true)(hlen:n+1<=137438953472)(hbase:base<=w.heap.size)(t0)(h:∀ v' w',w'.ownsRow base e 1 v' (n+1) (xs++[u])->w.grownBy w' v.ownBlock->(v'.ownBlock=v.ownBlock\/v'.ownBlock=some (w.heap.size+1))->wpList P ops Q rest (a.put o.dst v') w'):
  wpList P ops Q (o::rest) a (w.alloc (.cells #[u] t0)):=by
 refine xR E hgd s x ho base v n xs hs (hown.alloc _) _ 1 1 [u] hx I (eN.new w t0 [u]) (by simpa using h1) hlen (P8 hbase si) ?_
 .intro v' w' h2 h3 h5
  exact h v' w' h2 (⟨h3.os,h3.tape,h3.output,P8 si h3.size,λk hk hn=>(h3.block k (by simp; omega) hn).trans (AF3 w _ k hk)⟩) (by simpa using h5)
end
theorem gC{v:Ω}(h:w.ownsRow base e sz v n xs)(c:Fr S w w')(i:∀ g,v.ownBlock=some g->g∉S):w'.ownsRow base e sz v n xs:=by
 refine ⟨h.1,?_⟩
 rcases h.2 with f | ⟨g,cap,a,rfl,b,d,rest⟩
 .exact .inl f
 .refine .inr ⟨g,cap,a,I,b,?_,rest⟩
  rw [c.block g zg (i g I)]
  omega
theorem lC{v:Ω}(h:w.ownsRow base e sz v n xs):∃ A cap,v = .slice A n cap:=by
 rcases h.2 with ⟨rfl,rfl⟩ | ⟨g,cap,a,rfl,_⟩
 .exact ⟨_,0,I⟩
 .exact ⟨_,cap,I⟩
theorem II(h:w.drew.grownBy w' r):w.grownBy w' r:=⟨h.os,h.tape,h.output,h.size,h.block⟩
theorem xS{v:Ω}(h:w.ownsRow base e sz v n xs)(c:base'<=base):w.ownsRow base' e sz v n xs:=by
 refine ⟨h.1,?_⟩
 rcases h.2 with f | ⟨g,cap,a,b,d,rest⟩
 .grind
 .exact .inr ⟨g,cap,a,b,U,rest⟩
theorem IJ{v:Ω}(h:w.ownsRow base e 1 v n xs)(k:0 < n):
  ∃ g cap rest,v=ql g n cap/\base<=g/\n<=cap/\At w g e (xs++rest)/\xs.length=n/\(xs++rest).length=cap:=by
 rcases h.2 with ⟨_,j⟩ | ⟨g,cap,a,rfl,c,f,b,_,d,i⟩
 .omega
 .refine ⟨g,cap,a.toList.drop (n*1),I,c,b,?_,by simpa using h.1,?_⟩
  .unfold At
   rw [<- i,S6]
   omega
  grind
def aI(w:World)(A:Option Addr)(xs:List Value):Prop :=
 ∀ i u,xs[i]?=some u -> ∃ b o,A=some ⟨b,o,none⟩ /\ b < w.heap.size /\ w.cell? ⟨b,o+i,none⟩=some u
theorem aI.fr(h:aI w A xs)(d:Fr S w w')(f:∀ b o,A=some ⟨b,o,none⟩->b∉S):aI w' A xs:=by
 intro i u g
 obtain ⟨b,o,a,c,e⟩:=h i u g
 exact ⟨b,o,a,l0 c d.size,by rw [d.cell c (f b o a)]; exact e⟩
theorem aI.eW(h:aI w A xs)(a:Fr [] w w'):aI w' A xs:=h.fr a si
theorem eN.gJ(h:aI w A xs):eN w A xs:=by
 intro j u a
 obtain U:=h j u a
 grind [kB]
theorem aI.bM(h:w.ownsRow base e 1 (.slice A n c) n xs):aI w A xs:=by
 intro j u a
 rcases h.2 with ⟨_,f⟩ | ⟨g,cap,d,b,_,k,_⟩
 .have:=h.1
  rw [f,AA0] at this
  rw [L1 this] at a
  simp at a
 .simp only [R6] at b
  obtain ⟨rfl,_⟩:=b
  have i:=h.cells (g:=g) I j u a
  rw [kB] at i
  grind
theorem At.setRow(h:At w g t l)(l':Ξ):At (w.setRow g l'.toArray) g t l':=setRow_heap w g _ _ t (0,0) h
theorem Fr.setRow(w g cs):Fr [g] w (w.setRow g cs) :=
 ⟨I,I,I,by simp,λk _ a=>by
  grind [World.setRow]⟩
section
variable {P:Program}
theorem Qv(p:P.underlying dT=some (.slice elem))(o:(P.info? elem).map (·.size)=some 1)(w k g off b d A c e t)(l cs:Ξ)(h:At w g t l)(n:cs.length=Nat.min c b)(f:eN w A cs)(i:off+cs.length<=l.length)(s:∀ v∈cs,v.oneCell'=true):
  ∃ m,(Builtin.copy_ #[dT,sT] k #[.slice (some ⟨g,off,none⟩) b d,.slice A c e]).run P w = .ok (C (cs.length:Int)) m/\Fr [g] w m/\At m g t (l.take off++cs++l.drop (off+cs.length)):=by
 cases A with
 | none =>
   have q:cs=[]:=by
    cases cs with
    | nil=>rfl
    | cons v r =>
      obtain U:=f 0 v I
      grind
   subst q
   refine ⟨w,?_,Fr.refl _ _,by simpa using h⟩
   rw [run_copy_none w dT sT k elem _ none b d c e p o (su n.symm)]
   rfl
 | some a =>
   have:=run_copy_row (P:=P) w dT sT k elem g off b d a c e _ t cs p o h n (λj v u=>by
    obtain U:=f j v u
    grind) (su i) s
   exact ⟨_,this,Fr.setRow _ _ _,h.setRow _⟩
theorem BO(L:P.underlying dT=some (.slice elem))(H:(P.info? elem).map (·.size)=some 1){rest:List Oper}(p:o.guard=none)(d s)(F:o.op = .call { callee:=.builtin .copy,args:=#[d,s],argTypes:=#[dT,sT] })(g off b e A c f t)(l cs:Ξ)(B:a.eval d = .slice (some ⟨g,off,none⟩) b e)(N:a.eval s = .slice A c f)(n:At w g t l)(E:cs.length=Nat.min c b)(k:eN w A cs)(i:off+cs.length<=l.length)(x:∀ v∈cs,v.oneCell'=true)(u)(r:cs.length=u)(l')(q:l'=l.take off++cs++l.drop (off+cs.length))(h:∀ m,Fr [g] w m->At m g t l'->wpList P ops Q rest (a.put o.dst (C (u:Int))) m):wpList P ops Q (o::rest) a w:=by
 subst r q
 obtain ⟨m,j,D,z⟩:=Qv L H w o.type g off b e A c f t l cs n E k i x
 refine AEd p λK y=>?_
 unfold Oper.wp execOp
 simp only [F,resolve,invoke,builtin,P5,T9,J3,Z1,X4,Y8,B,N]
 rw [j]
 exact y _ _ (h m D z)
end
section
variable {P:Program}
theorem Qw(w b off d t)(l cs:Ξ)(a:At w b t l)(c:off+cs.length<=l.length)(hi:(P.info? d).map (·.size)=some cs.length)(f:∀ v∈cs,v.oneCell'=true):
  ∃ e,(storeVar d ⟨b,off,none⟩ (.agg cs.toArray)).run P w = .ok () e/\Fr [b] w e/\At e b t (l.take off++cs++l.drop (off+cs.length)):=by
 have:=run_storeCells_at (P:=P) b off t cs 0 _ w a (su c) f
 simp only [AB7] at this
 refine ⟨_,?_,Fr.setRow _ _ _,a.setRow _⟩
 cases g:P.info? d with
 | none=>grind
 | some i =>
   have h:i.size=cs.length:=by grind
   simp [storeVar,sizeOf,typeInfo,g,Value.cells,h,this]
theorem Qx(i x y)(n:o.op = .store i x y)(b off)(p:a.eval x = .pointer (some ⟨b,off,none⟩))(t)(l cs:Ξ)(q:a.eval y = .agg cs.toArray)(f:At w b t l)(c:off+cs.length<=l.length)(hi:(P.info? i).map (·.size)=some cs.length)(j:∀ v∈cs,v.oneCell'=true)(l')(g:l'=l.take off++cs++l.drop (off+cs.length))(h:∀ e,Fr [b] w e->At e b t l'->K (a.put o.dst undef) e):o.wp P a w K Q:=by
 subst g
 obtain ⟨e,d,m,k⟩:=Qw w b off i t l cs f c hi j
 unfold Oper.wp execOp
 simp only [n,p,q,Instr.storeAt,Instr.sureAddr,P5,T9,J3,d]
 exact h e m k
theorem xT{rest:List Oper}(e:o.guard=none)(g x y)(k:o.op = .store g x y)(b off)(m:a.eval x = .pointer (some ⟨b,off,none⟩))(t)(l cs:Ξ)(n:a.eval y = .agg cs.toArray)(d:At w b t l)(c:off+cs.length<=l.length)(hi:(P.info? g).map (·.size)=some cs.length)(j:∀ v∈cs,v.oneCell'=true)(l')(f:l'=l.take off++cs++l.drop (off+cs.length))(h:∀ i,Fr [b] w i->At i b t l'->wpList P ops Q rest (a.put o.dst undef) i):wpList P ops Q (o::rest) a w :=
 AEd e λ_ p=>Qx g x y k b off m t l cs n d c hi j l' f zg
theorem rV{rest:List Oper}(hgd:o.guard=none)(ty x y)(ho:o.op = .store ty x y)(hx:a.eval x = .pointer (qa w.heap.size))(t)(z:Array Value)(cs:Ξ)(hy:a.eval y = .agg cs.toArray)(hz:z.size=cs.length)(hi:(P.info? ty).map (·.size)=some cs.length)(h1:∀ v∈cs,v.oneCell'=true)(h:∀ w',Fr [] w w'->At w' w.heap.size t cs->wpList P ops Q rest (a.put o.dst undef) w'):wpList P ops Q (o::rest) a (w.alloc (.cells z t)):=by
 refine xT hgd ty x y ho _ 0 hx t _ cs hy (by simpa using At.new w t _) (by grind) hi h1 cs (by simp [<- hz]) ?_
 intro w' hf ha
 exact h w' (((Fr.refl _ _).alloc _).trans' hf si) ha
end
end
def B8(bs:List UInt8):List Value:=bs.map λb=>Value.int .u8 (b.toNat:Int)
theorem nO(a b):B8 (a++b)=B8 a++B8 b:=by simp [B8]
theorem eX(a):(B8 a).length=a.length:=by simp [B8]
theorem iP(a):∀ u∈B8 a,u.oneCell'=true:=by
 intro u c
 obtain ⟨b,_,rfl⟩:=Y9.1 c
 rfl
theorem uN(a)(i:Nat)(b)(h:a[i]?=some b):(B8 a)[i]?=some (.int .u8 (b.toNat:Int)):=by simp [B8,h]
def aE(n:Nat):List UInt8:=if n < 128 then [UInt8.ofNat n] else UInt8.ofNat (n % 128+128)::aE (n / 128)
termination_by n
theorem oM(n)(h:n < 128):aE n=[UInt8.ofNat n]:=by rw [aE,P1 h]
theorem rY(n)(h:¬ n < 128):aE n=UInt8.ofNat (n % 128+128)::aE (n / 128):=by rw [aE,P4 h]
theorem IK(k):∀ n,n < 128 ^ (k+1)->(aE n).length<=k+1:=by
 induction k with
 | zero=>intro n h; rw [oM n (by simpa using h)]; simp
 | succ k b =>
   intro n h
   by_cases a:n < 128
   .grind
   .rw [rY n a,V0]
    grind
theorem eY(n)(h:n < 18446744073709551616):(aE n).length<=10:=IK 9 n U
theorem Qy:∀ x < 256,x ||| 128=x % 128+128:=by decide +kernel
theorem Qz(m:Nat):bits BinOp.or IntKind.u8 ((m:Int) % 256) 128=((UInt8.ofNat (m % 128+128)).toNat:Int):=by
 have h:=u8_or_nat (m % 256) 128 U U
 rw [Qy _ U] at h
 have e:((m % 256:Nat))=(m:Int) % 256:=U
 rw [e] at h
 rw [show ((128:Nat):Int)=128 from I] at h
 rw [h]
 have:(UInt8.ofNat (m % 128+128)).toNat=m % 128+128:=by simp; omega
 omega
theorem IL(m:Nat)(h:m < 256):(m:Int)=((UInt8.ofNat m).toNat:Int):=by
 have:(UInt8.ofNat m).toNat=m:=by simp; omega
 omega
def dA(n:Nat):Prop:=n < 18446744073709551616
def gH(n:Int):Nat:=if n < 0 then ((-(n+1))*2+1).toNat else (n*2).toNat
theorem xU(n)(a:-9223372036854775808<=n)(b:n<=9223372036854775807):gH n < 18446744073709551616:=by
 grind [gH]
def pX(n:Int):Prop:=-9223372036854775808 <= n /\ n <= 9223372036854775807
def pF:List Nat:=[
 0x428a2f98,0x71374491,0xb5c0fbcf,0xe9b5dba5,0x3956c25b,0x59f111f1,0x923f82a4,0xab1c5ed5,
 0xd807aa98,0x12835b01,0x243185be,0x550c7dc3,0x72be5d74,0x80deb1fe,0x9bdc06a7,0xc19bf174,
 0xe49b69c1,0xefbe4786,0x0fc19dc6,0x240ca1cc,0x2de92c6f,0x4a7484aa,0x5cb0a9dc,0x76f988da,
 0x983e5152,0xa831c66d,0xb00327c8,0xbf597fc7,0xc6e00bf3,0xd5a79147,0x06ca6351,0x14292967,
 0x27b70a85,0x2e1b2138,0x4d2c6dfc,0x53380d13,0x650a7354,0x766a0abb,0x81c2c92e,0x92722c85,
 0xa2bfe8a1,0xa81a664b,0xc24b8b70,0xc76c51a3,0xd192e819,0xd6990624,0xf40e3585,0x106aa070,
 0x19a4c116,0x1e376c08,0x2748774c,0x34b0bcb5,0x391c0cb3,0x4ed8aa4a,0x5b9cca4f,0x682e6ff3,
 0x748f82ee,0x78a5636f,0x84c87814,0x8cc70208,0x90befffa,0xa4506ceb,0xbef9a3f7,0xc67178f2]
def mH:List Nat:=[0x6a09e667,0xbb67ae85,0x3c6ef372,0xa54ff53a,0x510e527f,0x9b05688c,0x1f83d9ab,0x5be0cd19]
def rotr(n x:Nat):Nat:=(x / 2 ^ n) ||| (x*2 ^ (32 - n) % 4294967296)
def fG(a b:Nat):Nat:=(a+b) % 4294967296
def tM(y:Nat):Nat:=rotr 7 y ^^^ rotr 18 y ^^^ (y / 2 ^ 3)
def rZ(x:Nat):Nat:=rotr 17 x ^^^ rotr 19 x ^^^ (x / 2 ^ 10)
def Eb(e:Nat):Nat:=rotr 6 e ^^^ rotr 11 e ^^^ rotr 25 e
def Ec(a:Nat):Nat:=rotr 2 a ^^^ rotr 13 a ^^^ rotr 22 a
def chF(e f g:Nat):Nat:=(e &&& f) ^^^ ((4294967295 - e) &&& g)
def QA(a b c:Nat):Nat:=(a &&& b) ^^^ (a &&& c) ^^^ (b &&& c)
def word(b:List UInt8)(t:Nat):Nat :=
 ((b.getD (4*t) 0).toNat*2 ^ 24) ||| ((b.getD (4*t+1) 0).toNat*2 ^ 16) ||| ((b.getD (4*t+2) 0).toNat*2 ^ 8) ||| (b.getD (4*t+3) 0).toNat
def xV(l:List Nat)(t:Nat):Nat:=fG (fG (fG (rZ (l.getD (t - 2) 0)) (l.getD (t - 7) 0)) (tM (l.getD (t - 15) 0))) (l.getD (t - 16) 0)
def nP(b:List UInt8):Nat -> List Nat
 | 0=>[]
 | t+1=>let l:=nP b t; l++[if t < 16 then word b t else xV l t]
structure S8 where
 a:Nat
 b:Nat
 c:Nat
 d:Nat
 e:Nat
 f:Nat
 g:Nat
 h:Nat
def S8.t1(s:S8)(k w:Nat):Nat:=fG (fG (fG (fG s.h (Eb s.e)) (chF s.e s.f s.g)) k) w
def S8.t2(s:S8):Nat:=fG (Ec s.a) (QA s.a s.b s.c)
def S8.wA(s:S8)(k w:Nat):S8:=⟨fG (s.t1 k w) s.t2,s.a,s.b,s.c,fG s.d (s.t1 k w),s.e,s.f,s.g⟩
def rounds(W:List Nat)(s:S8):Nat -> S8
 | 0=>s
 | t+1=>(rounds W s t).wA (pF.getD t 0) (W.getD t 0)
def S8.of(l:List Nat):S8:=⟨l.getD 0 0,l.getD 1 0,l.getD 2 0,l.getD 3 0,l.getD 4 0,l.getD 5 0,l.getD 6 0,l.getD 7 0⟩
def S8.list(s:S8):List Nat:=[s.a,s.b,s.c,s.d,s.e,s.f,s.g,s.h]
def lO(H:List Nat)(b:List UInt8):List Nat:=List.zipWith fG H (rounds (nP b 64) (S8.of H) 64).list
def lD:Nat -> List Nat -> List UInt8 -> List Nat
 | 0,H,_=>H
 | n+1,H,b=>lD n (lO H (b.take 64)) (b.drop 64)
def fV(w k:Nat):UInt8:=UInt8.ofNat (w / 2 ^ (8*k) % 256)
def lP(H:List Nat):List UInt8:=H.flatMap λw=>[fV w 3,fV w 2,fV w 1,fV w 0]
def pG(n:Nat):List UInt8:=128::List.replicate ((119 - n % 64) % 64) 0++[fV (n*8) 7,fV (n*8) 6,fV (n*8) 5,fV (n*8) 4,fV (n*8) 3,fV (n*8) 2,fV (n*8) 1,fV (n*8) 0]
def fP(x:List UInt8):List UInt8:=lP (lD ((x++pG x.length).length / 64) mH (x++pG x.length))
def dS(n:Nat):Prop:=n < 4294967296
theorem dS.add(a b):dS (fG a b):=z8 _ (by decide)
theorem dS.xor{a:Nat}(c:dS a)(d:dS b):dS (a ^^^ b):=AE1 (n:=32) c d
theorem dS.or{a:Nat}(c:dS a)(d:dS b):dS (a ||| b):=Nat.or_lt_two_pow (n:=32) c d
theorem dS.and{a:Nat}(c:dS b):dS (a &&& b):=ACh Nat.and_le_right c
theorem dS.div{a:Nat}(b:dS a)(k):dS (a / k):=ACh (AD6 _ _) b
theorem dS.not(a):dS (4294967295 - a):=by unfold dS; omega
theorem dS.rotr{a:Nat}(b:dS a)(n:Nat):dS (rotr n a):=(b.div _).or (z8 _ (by decide))
theorem xW(b:UInt8)(k)(c:k<=24):dS (b.toNat*2 ^ k):=by
 have d:=V1 b
 have a:2 ^ k<=2 ^ 24:=Y2 (by decide) c
 have e:b.toNat*2 ^ k<=255*2 ^ 24:=Z9 U a
 unfold dS
 omega
theorem dS.word(b:Γ)(t:Nat):dS (word b t):=by
 have a:=V1 (b.getD (4*t+3) 0)
 exact (((xW _ 24 U).or (xW _ 16 U)).or (xW _ 8 U)).or (by unfold dS; omega)
theorem dS.sched(b:Γ):∀ t,∀ x∈nP b t,dS x
 | 0,x,a=>by cases a
 | t+1,x,a=>by
   simp only [nP] at a
   rcases P7.1 a with h | h
   .exact dS.sched b t x h
   .simp only [T0,U7,k4] at h
    rw [h]
    split
    .exact dS.word b t
    .exact dS.add _ _
theorem sB(b:Γ):∀ t,(nP b t).length=t
 | 0=>rfl
 | t+1=>by simp only [nP,C3,V0,W7,sB b t]
theorem tN{l:List Nat}(h:∀ x∈l,dS x)(i):dS (l.getD i 0):=by
 rw [U5]
 cases a:l[i]? with
 | none=>show (0:Nat) < 4294967296; decide
 | some x=>grind
theorem Ac:∀ x∈mH,dS x:=by
 have:(mH.all λx=>decide (x < 4294967296))=true:=by decide +kernel
 grind [dS]
structure S8.Ok (s:S8):Prop where
 a:dS s.a
 b:dS s.b
 c:dS s.c
 d:dS s.d
 e:dS s.e
 f:dS s.f
 g:dS s.g
 h:dS s.h
theorem S8.Ok.wA{s:S8}(h:s.Ok)(k w):(s.wA k w).Ok:=⟨dS.add _ _,h.a,h.b,h.c,dS.add _ _,h.e,h.f,h.g⟩
theorem S8.PG{l:List Nat}(h:∀ x∈l,dS x):(S8.of l).Ok:=⟨tN h 0,tN h 1,tN h 2,tN h 3,tN h 4,tN h 5,tN h 6,tN h 7⟩
theorem QB(H b):∀ x∈lO H b,dS x:=by
 grind [lO,List.mem_iff_getElem?,dS.add]
theorem Ed(H:List Nat)(b)(h:H.length=8):(lO H b).length=8:=by
 unfold lO
 rw [List.length_zipWith,h]
 rfl
theorem xX:∀ (n:Nat) (H:List Nat) (b:Γ),H.length=8->(∀ x∈H,dS x)->(lD n H b).length=8/\∀ x∈lD n H b,dS x
 | 0,_,_,a,c=>⟨a,c⟩
 | n+1,H,_,a,_=>xX n _ _ (Ed H _ a) (QB H _)
theorem Ee:∀ (n:Nat) (H:List Nat) (b:Γ),lD (n+1) H b=lO (lD n H b) ((b.drop (64*n)).take 64)
 | 0,H,b=>by simp [lD]
 | n+1,H,b=>by
   have a:=Ee n (lO H (b.take 64)) (b.drop 64)
   rw [lD,a,Y3]
   rw [show 64+64*n=64*(n+1) by omega]
   rfl
theorem Ef:∀ (n:Nat) (H:List Nat) (a b:Γ),a.length=64*n->lD n H (a++b)=lD n H a
 | 0,_,_,_,_=>rfl
 | n+1,H,a,b,h=>by
   rw [lD,lD,Z5 U,p8 U]
   exact Ef n _ _ _ (by grind)
theorem nQ(a b:Nat):IntKind.u32.wrap ((a:Int)+(b:Int))=((fG a b:Nat):Int):=by
 grind [IntKind.wrap_u32',fG]
def gX(xs:List UInt8):List Nat:=lD (xs.length / 64) mH xs
def oN(xs:List UInt8):List UInt8:=xs.drop (64*(xs.length / 64))
theorem IM(xs):(oN xs).length=xs.length % 64:=by
 grind [oN]
theorem lE(xs):(gX xs).length=8/\∀ x∈gX xs,dS x:=xX _ _ _ I Ac
theorem IN(n H)(a b:Γ)(h:64*n<=a.length):lD n H (a++b)=lD n H a:=by
 have e:a=a.take (64*n)++a.drop _:=(S6 _ _).symm
 grind [Ef]
theorem IP(xs a:Γ)(h:xs.length % 64+a.length < 64):gX (xs++a)=gX xs/\oN (xs++a)=oN xs++a:=by
 have e:(xs++a).length / 64=xs.length / 64:=by grind
 unfold gX oN
 rw [e]
 exact ⟨IN _ _ _ _ U,by grind⟩
theorem IQ(xs a:Γ)(h:xs.length % 64+a.length=64):gX (xs++a)=lO (gX xs) (oN xs++a)/\oN (xs++a)=[]:=by
 have e:(xs++a).length / 64=xs.length / 64+1:=by grind
 have c:(xs++a).length=64*(xs.length / 64+1):=by grind
 have b:(xs++a).drop (64*(xs.length / 64))=oN xs++a:=by rw [p8 U]; rfl
 constructor
 .unfold gX
  rw [e,Ee,b,IN _ _ _ _ U,U2]
  grind
 .unfold oN
  rw [e,X6 U]
theorem IS(x):fP x=lP (gX (x++pG x.length)):=rfl
theorem QD(n):(n+(pG n).length) % 64=0:=by
 grind [pG,List.length_cons]
theorem QE(H):(lP H).length=4*H.length:=by
 induction H with
 | nil=>rfl
 | cons x H a =>
   have e:lP (x::H)=[_,_,_,_]++lP H:=I
   grind
theorem uO(x):(fP x).length=32:=by
 rw [IS,QE,(lE _).1]
def eC:List UInt8 -> Nat -> Nat
 | _,0=>0
 | [],_=>0
 | b::l,k+1=>b.toNat % 128+128*eC l k
theorem uP:∀ (k:Nat) (l:Γ) (b:UInt8),l[k]?=some b->eC l (k+1)=eC l k+(b.toNat % 128)*128 ^ k
 | 0,a::l,b,h=>by
   grind [eC]
 | k+1,a::l,b,h=>by
   simp at h
   have c:=uP k l b h
   rw [eC,c,eC,Nat.pow_succ,Nat.mul_add]
   have:128*(b.toNat % 128*128 ^ k)=b.toNat % 128*(128 ^ k*128):=by
    rw [AEe _ 128,<- Nat.mul_assoc,<- Nat.mul_assoc,AEe 128]
   omega
 | _,[],_,h=>by simp at h
theorem wC:∀ (k:Nat) (l:Γ),eC l k < 128 ^ k
 | 0,_=>by simp [eC]
 | k+1,[]=>by simp only [eC]; grind
 | k+1,b::l=>by
   have a:=wC k l
   grind [eC]
def ahead:List UInt8 -> Nat
 | []=>0
 | b::l=>if b.toNat < 128 then 0 else ahead l+1
theorem BP:∀ (k:Nat) (l:Γ),k<=l.length->(∀ j b,j < k->l[j]?=some b->128<=b.toNat)->ahead l=k+ahead (l.drop k)
 | 0,l,_,_=>by simp
 | k+1,[],h,_=>by grind
 | k+1,b::l,h,a=>by
   have d:=a 0 b U I
   have c:=BP k l (su h) zg
   rw [ahead,P4 U,c,AEb]
   omega
theorem QF(l b)(h:l[0]?=some b)(a:b.toNat < 128):ahead l=0:=by
 match l,h with
 | c::l,h =>
   simp at h
   subst h
   rw [ahead,P1 a]
def eP(D:List UInt8)(off:Nat):Option (Nat × Nat) :=
 match (D.drop off)[ahead (D.drop off)]? with
 | none=>none
 | some b=>if ahead (D.drop off) <= 9 /\ ¬ (0 < ahead (D.drop off) /\ b.toNat=0) /\ ¬ (ahead (D.drop off)=9 /\ 1 < b.toNat) then some (eC (D.drop off) (ahead (D.drop off)+1),off+ahead (D.drop off)+1) else none
theorem uQ(D off k x)(c:∀ j b,j < k->D[off+j]?=some b->128<=b.toNat)(f:D[off+k]?=some x)(a:x.toNat < 128):
  eP D off=if k<=9/\¬ (0 < k/\x.toNat=0)/\¬ (k=9/\1 < x.toNat) then some (eC (D.drop off) (k+1),off+k+1) else none:=by
 have e:off+k < D.length:=zg
 have d:ahead (D.drop off)=k:=by
  rw [BP k _ (by grind) zg]
  rw [QF _ x (by grind) a]
  rfl
 grind [eP]
theorem IT(D off k)(a:∀ j b,j < k->D[off+j]?=some b->128<=b.toNat)(h:off+k=D.length):eP D off=none:=by
 have c:ahead (D.drop off)=k:=by
  rw [BP k _ (by grind) zg]
  rw [Y3,X6 U]
  rfl
 unfold eP
 grind
theorem IU(D off)(a:∀ j b,j < 10->D[off+j]?=some b->128<=b.toNat)(h:off+10<=D.length):eP D off=none:=by
 have c:10<=ahead (D.drop off):=by
  rw [BP 10 _ (by grind) zg]
  omega
 unfold eP
 grind
theorem Eg(k):∀ l:Γ,(∀ j b,j < k->l[j]?=some b->128<=b.toNat)->(∃ b,l[k]?=some b/\b.toNat < 128/\¬ (0 < k/\b.toNat=0)) ->
  l=aE (eC l (k+1))++l.drop (k+1)/\(aE (eC l (k+1))).length=k+1:=by
 induction k with
 | zero =>
   intro l _ h
   obtain ⟨b,d,f,_⟩:=h
   match l,d with
   | a::l,d =>
     simp at d
     subst d
     have e:eC (a::l) 1=a.toNat:=by simp [eC]; omega
     rw [e,oM _ f]
     simp
 | succ k x =>
   intro l o t
   obtain ⟨b,d,f,q⟩:=t
   match l,d with
   | a::l,d =>
     simp at d
     have z:128<=a.toNat:=o 0 a U I
     have g:=V1 a
     obtain ⟨m,y⟩:=x l (λj c A u=>o (j+1) c U (by simpa using u)) ⟨b,d,f,λw=>q ⟨U,w.2⟩⟩
     have p:0 < eC l (k+1):=by
      rw [uP k l b d]
      have i:0 < b.toNat:=by
       rcases l6 _ with h | h
       .exact absurd ⟨U,h⟩ q
       .exact h
      have:b.toNat % 128=b.toNat:=l8 f
      rw [this]
      have:=Nat.mul_pos i (Nat.pow_pos (n:=k) (show 0 < 128 by omega))
      omega
     have e:eC (a::l) (k+1+1)=a.toNat % 128+128*eC l _:=I
     rw [e,rY _ U]
     have r:(a.toNat % 128+128*eC l (k+1)) % 128+128=a.toNat:=U
     have s:(a.toNat % 128+128*eC l (k+1)) / 128=eC l (k+1):=U
     rw [r,s]
     simp only [Z2,V0,AEb]
     refine ⟨?_,U⟩
     rw [<- m]
     simp
theorem Eh(m)(h:m < 256):(UInt8.ofNat m).toNat=m:=by simp; omega
theorem Ei(n):∀ (j:Nat) (b:UInt8),(aE n)[j]?=some b->(j+1 < (aE n).length->128<=b.toNat)/\(j+1=(aE n).length->b.toNat < 128/\(0 < j->b.toNat≠0)):=by
 induction n using Nat.strongRecOn with
 | _ n g =>
   intro j b a
   by_cases c:n < 128
   .rw [oM n c] at a ⊢
    cases j with
    | zero =>
      simp at a
      subst a
      refine ⟨λh=>by simp at h,λ_=>⟨by simp; omega,λh=>by omega⟩⟩
    | succ j=>grind
   .rw [rY n c] at a ⊢
    have e:=Nat.div_lt_self (show 0 < n by omega) (show 1 < 128 by omega)
    have d:0 < (aE (n / 128)).length:=by
     by_cases h:n / 128 < 128
     .rw [oM _ h]; simp
     .rw [rY _ h]; simp
    cases j with
    | zero =>
      simp only [AC0,V4] at a
      subst a
      refine ⟨λ_=>by rw [Eh _ U]; omega,λh=>by simp only [V0] at h; omega⟩
    | succ j =>
      simp at a
      obtain ⟨i,k⟩:=g _ e j b a
      simp only [V0]
      refine ⟨U,λh=>⟨U,λ_=>?_⟩⟩
      cases j with
      | zero =>
        have l:(aE (n / 128)).length=1:=U
        by_cases f:n / 128 < 128
        .rw [oM _ f] at a
         simp at a
         subst a
         have:0 < n / 128:=U
         simp
         omega
        grind [aE]
      | succ j=>exact U
def Ej(m:Nat)(x:UInt8)(k:Nat):Int:=bits BinOp.or IntKind.u64 (m:Int) (IntKind.u64.wrap (IntKind.u64.wrap (bits BinOp.and IntKind.u8 (x.toNat:Int) 127)*2 ^ (7*k)))
theorem QG(x:UInt8):bits BinOp.and IntKind.u8 (x.toNat:Int) 127=((x.toNat % 128:Nat):Int):=by
 have h:=u8_and_nat _ 127 (V1 x) U
 grind [nat_mask7]
theorem QH(m x k)(b:dA m):∃ a:Nat,Ej m x k=(a:Int)/\dA a/\(m < 128 ^ k->x.toNat % 128*128 ^ k < 18446744073709551616->a=m+x.toNat % 128*128 ^ k):=by
 unfold dA at b
 unfold Ej
 rw [QG]
 have h:=z8 x.toNat (show 128 > 0 by omega)
 have c:IntKind.u64.wrap ((x.toNat % 128:Nat):Int)=((x.toNat % 128:Nat):Int):=IntWalk.u64_in _ (by omega)
 rw [c]
 have d:((x.toNat % 128:Nat):Int)*2 ^ (7*k)=((x.toNat % 128*128 ^ k:Nat):Int):=by
  rw [show (128:Nat)=2 ^ 7 from I,<- Nat.pow_mul]
  push_cast
  rfl
 rw [d,X0]
 have e:((x.toNat % 128*128 ^ k:Nat):Int) % 18446744073709551616=((x.toNat % 128*128 ^ k % 18446744073709551616:Nat):Int):=by omega
 rw [e,u64_or_nat m _ b (by omega)]
 refine ⟨_,I,?_,?_⟩
 .exact Nat.or_lt_two_pow (n:=64) (by omega) (by omega)
 .intro f g
  rw [l8 g,Nat.or_comm,nat_join (7*k) _ m]
  .omega
  .rw [show (128:Nat)=2 ^ 7 from I,<- Nat.pow_mul]
   exact Nat.mul_mod_left _ _
  .rw [Nat.pow_mul]; exact f
def hU(n:Nat):Int:=if n % 2=1 then -((n / 2:Nat):Int) - 1 else ((n / 2:Nat):Int)
theorem gS:lN Tryz.prog 35 5 (.int .u8 0) 1 1:=⟨si,J,I,U,U⟩
def xY(bs:List UInt8)(w:World)(e:Ending)(w':World):Prop :=
 ∃ A c,e = .returned (.slice A bs.length c) /\ Fr [] w w' /\ w'.ownsRow w.heap.size 5 1 (.slice A bs.length c) bs.length (B8 bs)
theorem IV(cs)(h:bs=cs){e:Ending}(k:xY cs w e w'):xY bs w e w':=by grind
theorem xZ{v:Ω}(f:Fr [] w wr)(b:wr.ownsRow w.heap.size e sz v n xs)(h:wr.grownBy w1 v.ownBlock):Fr [] w w1 :=
 f.grown h (λg a=>.inr (by
  rcases b.2 with ⟨rfl,_⟩ | ⟨d,cap,c,rfl,i,_⟩
  .simp [Value.ownBlock] at a
  .have:some d=some g:=a
   injection this with this
   omega))
theorem QI{xs:Γ}{v:Ω}(d:Fr [] w wr)(b:wr.ownsRow w.heap.size 5 1 v cs.length (B8 cs))(a:w1.ownsRow w.heap.size 5 1 v' (cs.length+xs.length) (B8 cs++B8 xs))(f:wr.grownBy w1 v.ownBlock):
  ∃ A c cs',Hid (cs'=cs++xs)/\cs'.length<=cs.length+xs.length/\v' = .slice A cs'.length c/\w1.ownsRow w.heap.size 5 1 v' cs'.length (B8 cs')/\Fr [] w w1:=by
 obtain ⟨A,c,rfl⟩:=lC a
 have e:(cs++xs).length=cs.length+xs.length:=by simp
 refine ⟨A,c,cs++xs,I,by omega,by rw [e],?_,xZ d b f⟩
 rw [e,nO]
 exact a
def bL(bs:List UInt8):ByteArray:=⟨bs.toArray⟩
theorem wD(f:P.underlying src=some (.slice e))(d:P.underlying e=some (.int .u8))(c:P.underlying dst=some .string)(w A cap bs)(h:aI w A (B8 bs)):
  (convert src dst (.slice A bs.length cap)).run P w = .ok (.string (bL bs)) w:=by
 cases A with
 | none =>
   have g:bs=[]:=by
    cases bs with
    | nil=>rfl
    | cons b l =>
      obtain U:=h 0 _ I
      grind
   subst g
   rw [run_convert_bytes_string w src dst e _ _ cap f d c]
   simp [Conv.bytesToString]
   rfl
 | some a =>
   refine run_convert_bytes_back w src dst e a cap bs f d c ?_
   intro j i
   obtain U:=h j _ (uN bs j bs[j] zg)
   grind [kB]
theorem QJ(w:Λ)(a e)(l:Ξ)(b:a<=w.heap.size)(c:l.length<=maxLen):
  (w.alloc (.cells l.toArray e)).ownsRow a e 1 (ql w.heap.size l.length l.length) l.length l :=
 ⟨by simp,.inr ⟨w.heap.size,l.length,l.toArray,I,b,ABa w _,J7 _,c,by simp,by simp⟩⟩
structure BR (w wr:World) (v:Value) (cs:List UInt8):Prop where
 fr:Fr [] w wr
 own:wr.ownsRow w.heap.size 5 1 v cs.length (B8 cs)
theorem BR.push{xs:Γ}{v:Ω}(h:BR w wr v cs)(a:w1.ownsRow w.heap.size 5 1 v' (cs.length+xs.length) (B8 cs++B8 xs))(i:wr.grownBy w1 v.ownBlock):
  ∃ A c cs',Hid (cs'=cs++xs)/\cs'.length<=cs.length+xs.length/\v' = .slice A cs'.length c/\Hid (BR w w1 v' cs'):=by
 obtain ⟨A,c,cs',b,d,e,f,g⟩:=QI h.fr h.own a i
 exact ⟨A,c,cs',b,d,e,g,f⟩
theorem BR.size{v:Ω}(h:BR w wr v cs):w.heap.size<=wr.heap.size:=h.fr.size
theorem BR.alloc{v:Ω}(h:BR w wr v cs)(o):BR w (wr.alloc o) v cs:=⟨h.fr.alloc o,h.own.alloc o⟩
theorem BR.row(h:BR w wr (.slice A cs.length c) cs):aI wr A (B8 cs):=aI.bM h.own
theorem BR.lit(w)(l:Γ)(hm:l.length<=maxLen):BR w (w.alloc (.cells (B8 l).toArray 5)) (ql w.heap.size l.length l.length) l:=by
 refine ⟨(Fr.refl _ _).alloc _,?_⟩
 have:=QJ w w.heap.size 5 _ U (by rw [eX]; omega)
 grind [eX]
theorem BR.cap(h:BR w wr (.slice A cs.length c) cs):cs.length<=c:=by
 rcases h.own.2 with ⟨a,d⟩ | ⟨g,cap,b,a,_,_,d,_⟩
 .simp only [R6] at a
  omega
 .simp only [R6] at a
  omega
theorem BR.far(h:BR w wr (.slice A cs.length c) cs):∀ g o,A=some ⟨g,o,none⟩->w.heap.size<=g:=by
 rintro g o rfl
 rcases h.own.2 with ⟨a,d⟩ | ⟨e,cap,b,a,f,_,d,_⟩
 .simp at a
 .simp only [R6,V4,Addr.mk.injEq] at a
  omega
section
abbrev eH:=List (Nat × Value)
def jS:eH -> Nat -> Option Value
 | [],_=>none
 | p::E,t=>bif Nat.beq p.1 t then some p.2 else jS E t
def bA(E:eH):Operand -> Option Value
 | .tmp t=>jS E t
 | .const v=>some v
 | .global g=>some (.pointer (some ⟨g,0,none⟩))
 | .func f=>some (.func (.func f) #[] #[])
def evE(E:eH)(x:Operand):Value:=(bA E x).getD undef
def IW(E:eH)(d:Option Nat)(v:Value):eH:=match d with | some t=>(t,v)::E | none=>E
structure Ev (n:Nat) (E:eH) (a:Act):Prop where
 size:a.tmps.size=n
 defers:a.defers=[]
 val:∀ t v,jS E t=some v -> a.tmps.getD t undef=v
theorem Ev.eval{E:eH}(h:Ev n E a){v:Ω}(b:bA E x=some v):a.eval x=v:=by
 cases x with
 | tmp t=>exact h.val t v b
 | const u=>exact Z0 b
 | global g=>exact Z0 b
 | func f=>exact Z0 b
theorem Ev.evE{E:eH}(h:Ev n E a)(c:(bA E x).isSome=true):a.eval x=evE E x:=by
 obtain ⟨v,b⟩:=AA7.1 c
 rw [h.eval b,Go.Proofs.YtkjnecaieiaijaaGreatDoor.evE,b]
 rfl
def nE(n:Nat)(d:Option Nat):Bool:=match d with | some t=>Nat.blt t n | none=>true
theorem Ev.put{E:eH}(h:Ev n E a)(f:nE n d=true)(v):Ev n (IW E d v) (a.put d v):=by
 cases d with
 | none=>exact h
 | some t =>
  have g:t < a.tmps.size:=by rw [h.size]; exact (Nat.blt_eq (x:=t) (y:=n))▸f
  refine ⟨by simp [Act.put,h.size],h.defers,λs u b=>?_⟩
  simp only [IW,jS] at b
  simp only [Act.put,Y6,Array.getElem?_setIfInBounds]
  cases c:Nat.beq t s with
  | true =>
   rw [c] at b
   have:=AAd c
   subst this
   rw [P1 I,P1 g]
   exact Z0 b
  | false =>
   rw [c] at b
   have e:=AC3 c
   rw [P4 e]
   have:=h.val s u b
   rwa [Y6] at this
theorem Ev.sub{E E':eH}(h:Ev n E a)(b:∀ t v,jS E' t=some v->jS E t=some v):Ev n E' a:=⟨h.size,h.defers,λt v c=>h.val t v zg⟩
def tO(E:eH):eH -> Prop
 | []=>True
 | p::E'=>jS E p.1=some p.2 /\ tO E E'
theorem BQ{E E':eH}(h:tO E E'):∀ t v,jS E' t=some v->jS E t=some v:=by
 induction E' with
 | nil=>intro t v a; cases a
 | cons p E' c =>
  intro t v a
  simp only [jS] at a
  cases b:Nat.beq p.1 t with
  | true =>
   rw [b] at a
   have:=AAd b
   subst this
   rw [<- Z0 a]
   exact h.1
  | false =>
   rw [b] at a
   exact c h.2 t v a
structure Ch where
 fp:List Nat
 holds:World -> Prop
 ok:∀ w w',(∀ b∈fp,w'.heap[b]?=w.heap[b]?) -> holds w -> holds w'
 lt:∀ w,holds w -> ∀ b∈fp,b < w.heap.size
def aD(b:Nat)(t:TypeId)(l:List Value):Ch where
 fp:=[b]
 holds w:=At w b t l
 ok w w' h hw:=(h b (by simp)).trans hw
 lt w hw c hc:=by rw [List.mem_singleton] at hc; subst hc; exact hw.lt
abbrev Y(n:Nat):Value:=.int .i64 ((n:Nat):Int)
abbrev vS(x:List UInt8):Value:=.string (bL x)
abbrev Z(b o:Nat):Value:=.pointer (some ⟨b,o,none⟩)
abbrev V{α:Type}(A:Option Addr)(l:List α)(c:Nat):Value:=.slice A l.length c
structure Mm (w0:World) (F:List Nat) (cs:List Ch) (w:World):Prop where
 fr:Fr F w0 w
 hold:∀ c∈cs,c.holds w
 nodup:(cs.flatMap Ch.fp).Nodup
 own:∀ b∈cs.flatMap Ch.fp,b∈F \/ w0.heap.size <= b
theorem Mm.start(w F):Mm w F [] w:=⟨Fr.refl _ _,si,si,si⟩
section
variable {w0 w w':World}{F:List Nat}{cs:List Ch}
theorem Mm.at(h:Mm w0 F cs w){i:Nat}{c:Ch}(hi:cs[i]?=some c):c.holds w:=h.hold c zg
theorem Mm.It(h:Mm w0 F cs w){b:Nat}(d:b∈cs.flatMap Ch.fp):b < w.heap.size:=by
 obtain ⟨c,e,a⟩:=T5.1 d
 exact c.lt w (h.hold c e) b a
theorem Mm.drew(h:Mm w0 F cs w):Mm w0 F cs w.drew:=⟨h.fr.drew,λc a=>c.ok w _ (λ_ _=>I) (h.hold c a),h.nodup,h.own⟩
theorem Mm.eW(h:Mm w0 F cs w)(d:Fr [] w w'):Mm w0 F cs w' :=
 ⟨h.fr.abY d,λc a=>c.ok w _ (λb e=>d.block b (c.lt w (h.hold c a) b e) si) (h.hold c a),h.nodup,h.own⟩
theorem IX{A B:List Ch}{c:Ch}(h:((A++c::B).flatMap Ch.fp).Nodup):
  (A.flatMap Ch.fp).Nodup/\(B.flatMap Ch.fp).Nodup/\(∀ b∈A.flatMap Ch.fp,b∉B.flatMap Ch.fp)/\∀ b∈c.fp,b∉A.flatMap Ch.fp/\b∉B.flatMap Ch.fp:=by
 grind
theorem IY{l:List α}{i:Nat}{c:α}(h:l[i]?=some c):l=l.take i++c::l.drop (i+1):=by
 grind [List.drop_eq_getElem_cons,List.take_append_drop]
theorem Mm.swap(h:Mm w0 F cs w)(i){c c':Ch}(hi:cs[i]?=some c)(E:Fr c.fp w w')(H:c'.holds w')(q:∀ b∈c'.fp,b∈c.fp\/w.heap.size<=b)(B:c'.fp.Nodup):
  Mm w0 F (cs.set i c') w':=by
 have N:=h.fr.size
 have L:=IY hi
 have A:c∈cs:=F0 hi
 have r:cs.set i c'=cs.take i++c'::cs.drop (i+1):=by
  have K:=(C4.1 hi).1
  rw [AAe,P1 K]
 have m:=h.nodup
 rw [L] at m
 obtain ⟨O,P,Q,D⟩:=IX m
 have y:∀ x∈cs.take i,x∈cs:=λx f=>l9 f
 have z:∀ x∈cs.drop (i+1),x∈cs:=λx f=>AA1 f
 have o:∀ x,x∈cs.take i\/x∈cs.drop (i+1)->x.holds w':=by
  intro x f
  have s:x∈cs:=f.elim (y x) (z x)
  refine x.ok w w' (λb d=>E.block b (x.lt w (h.hold x s) b d) (λp=>?_)) (h.hold x s)
  rcases f with f | f
  .exact (D b p).1 (T5.2 ⟨x,f,d⟩)
  .exact (D b p).2 (T5.2 ⟨x,f,d⟩)
 have l:∀ b∈c.fp,b∈F\/w0.heap.size<=b:=λb d=>h.own b (T5.2 ⟨c,A,d⟩)
 have k:∀ b,b∈(cs.take i).flatMap Ch.fp\/b∈(cs.drop (i+1)).flatMap Ch.fp->b < w.heap.size:=by
  intro b d
  rcases d with d | d <;> obtain ⟨x,f,j⟩:=T5.1 d
  .exact x.lt w (h.hold x (y x f)) b j
  .exact x.lt w (h.hold x (z x f)) b j
 have g:∀ b∈c'.fp,b∉(cs.take i).flatMap Ch.fp/\b∉(cs.drop (i+1)).flatMap Ch.fp:=by
  intro b d
  rcases q b d with n | n
  .exact D b n
  .exact ⟨λu=>by have:=k b (.inl u); omega,λu=>by have:=k b (.inr u); omega⟩
 rw [r]
 refine ⟨h.fr.trans' E l,?_,?_,?_⟩
 .intro x f
  rcases P7.1 f with f | f
  .exact o x (.inl f)
  .rcases T0.1 f with rfl | f
   .exact H
   .exact o x (.inr f)
 .rw [R3,V5,X9,X9]
  refine ⟨O,⟨B,P,λa t b d e=>(g a t).2 (e▸d)⟩,λa t b d e=>?_⟩
  subst e
  rcases P7.1 d with d | d
  .exact (g a d).1 t
  .exact Q a t d
 .intro b d
  rw [R3,V5] at d
  rcases P7.1 d with d | d
  .obtain ⟨x,f,j⟩:=T5.1 d
   exact h.own b (T5.2 ⟨x,y x f,j⟩)
  .rcases P7.1 d with d | d
   .rcases q b d with n | n
    .exact l b n
    .exact .inr (by omega)
   .obtain ⟨x,f,j⟩:=T5.1 d
    exact h.own b (T5.2 ⟨x,z x f,j⟩)
theorem Mm.push(h:Mm w0 F cs w){c:Ch}(hf:Fr [] w w')(hc:c.holds w')(hfp:∀ b∈c.fp,w.heap.size<=b)(hnd:c.fp.Nodup):Mm w0 F (cs++[c]) w':=by
 have h0:=h.eW hf
 have hsz:=h.fr.size
 refine ⟨h0.fr,?_,?_,?_⟩
 .intro x hx
  rcases P7.1 hx with hx | hx
  .exact h0.hold x hx
  .rw [G2] at hx
   subst hx
   exact hc
 .rw [R3,X9]
  refine ⟨h.nodup,by simpa using hnd,λa ha b hb e=>?_⟩
  subst e
  have h1:=h.It ha
  have h2:=hfp a (su hb)
  omega
 .intro b hb
  rw [R3] at hb
  rcases P7.1 hb with hb | hb
  .exact h.own b hb
  .exact .inr (by have:=hfp b (su hb); omega)
theorem Ek{A B:List Ch}(h:A.Sublist B):(A.flatMap Ch.fp).Sublist (B.flatMap Ch.fp):=by
 induction h with
 | slnil=>grind
 | cons a _ b=>grind
 | cons_cons a _ b=>rw [V5,V5]; exact (List.Sublist.refl _).append b
theorem Mm.sub{cs':List Ch}(h:Mm w0 F cs w)(a:cs'.Sublist cs):Mm w0 F cs' w :=
 ⟨h.fr,λc e=>h.hold c zg,h.nodup.sublist (Ek a),λb d=>h.own b zg⟩
theorem Mm.perm{cs':List Ch}(h:Mm w0 F cs w)(a:cs.Perm cs'):Mm w0 F cs' w :=
 ⟨h.fr,λc e=>h.hold c (a.mem_iff.2 e),(a.flatMap_right _).nodup_iff.1 h.nodup,λb d=>h.own b ((a.flatMap_right _).mem_iff.2 d)⟩
theorem Mm.lo(h:Mm w0 [] cs w){i:Nat}{c:Ch}(hi:cs[i]?=some c){b:Nat}(d:b∈c.fp):w0.heap.size<=b:=by
 rcases h.own b zg with a | a
 .grind
 omega
end
def St(n:Nat)(w0:World)(F:List Nat)(E:eH)(cs:List Ch)(X:Act -> World -> Prop):Prop:=∀ a w,Ev n E a -> Mm w0 F cs w -> X a w
def eK(P:Program)(Q:Exit -> Act -> World -> Prop)(n:Nat)(w0:World)(F:List Nat)(E:eH)(cs:List Ch)(o:Oper)(K:Act -> World -> Prop):Prop :=
 ∀ a w,Ev n E a -> Mm w0 F cs w -> o.wp P a w K Q
section
variable {P:Program}{Q:Exit -> Act -> World -> Prop}{n:Nat}{w0:World}{F:List Nat}{E:eH}{cs:List Ch}{X K:Act -> World -> Prop}{ops:Array Oper}{o:Oper}{rest:List Oper}{id d:Nat}
theorem St.fact{p:Prop}(e:∀ w,Mm w0 F cs w->p)(h:p->St n w0 F E cs X):St n w0 F E cs X:=λa w c b=>h zg a w c b
theorem St.mem{cs':List Ch}(e:∀ w,Mm w0 F cs w->Mm w0 F cs' w)(h:St n w0 F E cs' X):St n w0 F E cs X:=λa w b c=>h a w b zg
def yA(o:Oper):Bool:=match o.op with | .select ..=>false | _=>true
def dH(n:Nat)(E:eH)(o:Oper):Bool:=yA o && nE n o.dst && o.op.operands.all λx=>(bA E x).isSome
theorem tP{a:Act}(h:dH n E o=true)(f:Ev n E a):execOp a.eval o=execOp (evE E) o:=by
 simp only [dH,V6] at h
 refine execOp_congr o (λc b e=>?_) (λx g=>?_)
 .have:=h.1.1
  simp [yA,e] at this
 .exact f.evE ((Array.all_eq_true_iff_forall_mem.1 h.2) x g)
theorem uR(h:dH n E o=true):nE n o.dst=true:=by
 simp only [dH] at h
 grind
theorem fH(v)(g:o.dst=some d)(i:dH n E o=true)(j:∀ w,Mm w0 F cs w->(execOp (evE E) o).run P w = .ok (.value v) w)(h:St n w0 F ((d,v)::E) cs K):eK P Q n w0 F E cs o K:=by
 intro a w f e
 unfold Oper.wp
 rw [tP i f,j w e]
 have b:=f.put (uR i) v
 rw [g] at b
 have c:=h _ _ b e
 rw [<- g] at c
 exact c
theorem pH(g:o.dst=some d)(h:dH n E o=true)(m:∀ w,Mm w0 F cs w->∃ v b cs',(execOp (evE E) o).run P w = .ok (.value v) b/\Mm w0 F cs' b/\St n w0 F ((d,v)::E) cs' K):eK P Q n w0 F E cs o K:=by
 intro a w f l
 obtain ⟨v,b,cs',i,j,k⟩:=m w l
 unfold Oper.wp
 rw [tP h f,i]
 have c:=f.put (uR h) v
 rw [g] at c
 have e:=k _ _ c j
 rw [<- g] at e
 exact e
theorem Em(j:o.dst=none)(k:dH n E o=true)(l:∀ w,Mm w0 F cs w->∃ b cs',(execOp (evE E) o).run P w = .ok .skip b/\Mm w0 F cs' b/\St n w0 F E cs' K):eK P Q n w0 F E cs o K:=by
 intro a w c i
 obtain ⟨b,cs',e,f,g⟩:=l w i
 unfold Oper.wp
 rw [tP k c,e]
 have h:=g _ _ c f
 unfold Oper.upon
 rw [j]
 exact h
theorem eR(f args)(m:o.dst=some d)(g:dH n E o=true)(p:∀ w,(execOp (evE E) o).run P w = .ok (.enter f args) w)(h:∀ w,Mm w0 F cs w->Calls P f args w λe i=>∃ v cs',e = .returned v/\Mm w0 F cs' i/\St n w0 F ((d,v)::E) cs' K):eK P Q n w0 F E cs o K:=by
 intro a w c l
 unfold Oper.wp
 rw [tP g c,p w]
 refine (h w l).mono ?_
 rintro e i ⟨v,cs',rfl,j,k⟩
 have b:=c.put (uR g) v
 rw [m] at b
 have q:=k _ _ b j
 grind
theorem pI(f args)(q:o.dst=some d)(j:dH n E o=true)(r:∀ w,(execOp (evE E) o).run P w = .ok (.enter f args) w)(h:∀ w,Mm w0 F cs w->Calls P f args w λe k=>∃ v c F1 b,e = .returned v/\Mm c F1 b k/\St n c F1 ((d,v)::E) b K):eK P Q n w0 F E cs o K:=by
 intro a w i p
 unfold Oper.wp
 rw [tP j i,r w]
 refine (h w p).mono ?_
 rintro e k ⟨v,c,F1,b,rfl,l,m⟩
 have g:=i.put (uR j) v
 rw [q] at g
 have s:=m _ _ g l
 grind
theorem li(f:o.guard=none)(h:eK P Q n w0 F E cs o (wpList P ops Q rest)):St n w0 F E cs (wpList P ops Q (o::rest)) :=
 λa w e c=>AEd f λ_ b=>AGb b (h a w e c)
theorem aO(h:St n w0 F E cs (Q .normal)):St n w0 F E cs (wpList P ops Q []):=h
theorem aF{l:List Oper}(h:St n w0 F E cs (wpList P l.toArray Q l)):St n w0 F E cs ((Code.region id l.toArray false).wp P Q):=λa w c b=>wp_region_lit (h a w c b)
def jN(ops:Array Oper)(E:eH)(i:Nat):Option Bool :=
 match (ops[i]?).bind (·.dst) with
 | some t=>match jS E t with | some (.bool b)=>some b | _=>none
 | none=>none
theorem wE{a:Act}(g:Ev n E a){i:Nat}{b:Bool}(h:jN ops E i=some b):yielded ops a.tmps i=some b:=by
 unfold jN at h
 unfold yielded
 cases j:(ops[i]?).bind (·.dst) with
 | none=>grind
 | some t =>
   rw [j] at h
   cases e:jS E t with
   | none=>grind
   | some v =>
     simp only [e] at h
     have f:=g.val t _ e
     cases v <;> try (cases h; done)
     rename_i c
     rw [Y6] at f
     grind [undef]
theorem dP{i:Nat}{b:Bool}(g:o.guard=some (i,b))(j:jN ops E i=some b)(h:eK P Q n w0 F E cs o (wpList P ops Q rest)):St n w0 F E cs (wpList P ops Q (o::rest)) :=
 λa w f e=>wpList_step λ_ c=>by
  rw [P1 (by grind [Region.wanted,wE])]
  exact AGb c (h a w f e)
theorem iK{i:Nat}{b:Bool}(k:o.guard=some (i,!b))(j:o.dst=some d)(g:nE n (some d)=true)(l:jN ops E i=some b)(h:St n w0 F ((d,undef)::E) cs (wpList P ops Q rest)):St n w0 F E cs (wpList P ops Q (o::rest)) :=
 λa w f e=>wpList_step λ_ c=>by
  rw [P4 (by grind [Region.wanted,wE])]
  rw [j]
  exact c _ _ (h _ _ (f.put g _) e)
variable {x y c:Code}
theorem aT(h:St n w0 F E cs (x.wp P (Exit.then (y.wp P Q) Q))):St n w0 F E cs ((Code.seq x y).wp P Q):=λa w e b=>wp_seq (h a w e b)
theorem gL(h:St n w0 F E cs (Q .normal)):St n w0 F E cs (Code.skip.wp P Q):=λa w e b=>wp_skip (h a w e b)
theorem fY(h:St n w0 F E cs (c.wp P (Exit.inBlock id Q))):St n w0 F E cs ((Code.block id c).wp P Q):=λa w e b=>wp_block (h a w e b)
theorem pJ(h:St n w0 F E cs (Q (.exit id))):St n w0 F E cs ((Code.exit id).wp P Q):=λa w e b=>wp_exit (h a w e b)
theorem gW(h:St n w0 F E cs (Q .ret)):St n w0 F E cs (Code.ret.wp P Q):=λa w e b=>wp_ret (h a w e b)
theorem aY{u:Operand}{b:Bool}(j:bA E u=some (.bool b))(i:b=true->St n w0 F E cs (x.wp P Q))(g:b=false->St n w0 F E cs (y.wp P Q)):St n w0 F E cs ((Code.cond u x y).wp P Q) :=
 λa w e f=>wp_cond_split (e.eval j) (λh=>i h a w e f) (λh=>g h a w e f)
theorem nR{u:Operand}(f:bA E u=some (.bool true))(h:St n w0 F E cs (x.wp P Q)):St n w0 F E cs ((Code.cond u x y).wp P Q):=λa w b e=>wp_cond_true (b.eval f) (h a w b e)
theorem oO{u:Operand}(f:bA E u=some (.bool false))(h:St n w0 F E cs (y.wp P Q)):St n w0 F E cs ((Code.cond u x y).wp P Q):=λa w b e=>wp_cond_false (b.eval f) (h a w b e)
def BS{ι:Type}(n:Nat)(w0:World)(F:List Nat)(ok:ι -> Prop)(μ:ι -> Nat)(J:ι -> eH)(C:ι -> List Ch)(i:ι)(a:Act)(w:World):Prop:=∃ j,ok j /\ μ j < μ i /\ Ev n (J j) a /\ Mm w0 F (C j) w
theorem yB(ok:ι->Prop)(t:ι->Nat)(b:ι->eH)(C:ι->List Ch)(h:ι)(u:ok h)(z:tO E (b h))(A:∀ w,Mm w0 F cs w->Mm w0 F (C h) w)(f:∀ i,ok i->St n w0 F (b i) (C i) (c.wp P (Exit.then (BS n w0 F ok t b C i) Q))):St n w0 F E cs ((Code.loop c).wp P Q):=by
 intro a w m r
 refine wp_loop_ghost (λk a w=>∃ i,ok i/\t i=k/\Ev n (b i) a/\Mm w0 F (C i) w) _ ⟨h,u,I,m.sub (BQ z),A w r⟩ ?_
 rintro k a w ⟨i,B,rfl,m,r⟩
 refine wp_mono (f i B a w m r) ?_
 intro e H N g
 cases e with
 | normal =>
   obtain ⟨j,D,q,p,s⟩:=g
   exact ⟨_,q,j,D,I,p,s⟩
 | exit id=>exact g
 | goto l=>exact g
 | ret=>exact g
 | panic L=>exact g
 | outgrown=>exact g
theorem yC{ok:ι->Prop}{b:ι->Nat}{a:ι->eH}{C:ι->List Ch}{i:ι}(j:ι)(e:ok j)(f:b j < b i)(g:tO E (a j))(h:∀ w,Mm w0 F cs w->Mm w0 F (C j) w):St n w0 F E cs (BS n w0 F ok b a C i) :=
 λ_ w k l=>⟨j,e,f,k.sub (BQ g),h w l⟩
def En{ι:Type}(n:Nat)(w0:World)(F:List Nat)(ok:ι -> Prop)(J:ι -> eH)(C:ι -> List Ch)(a:Act)(w:World):Prop:=∃ j,ok j /\ Ev n (J j) a /\ Mm w0 F (C j) w
theorem qU(ok:ι->Prop)(b:ι->eH)(C:ι->List Ch)(m:St n w0 F E cs (x.wp P (Exit.then (En n w0 F ok b C) Q)))(p:∀ i,ok i->St n w0 F (b i) (C i) (y.wp P Q)):St n w0 F E cs ((Code.seq x y).wp P Q):=by
 intro a w q s
 refine wp_seq<|wp_mono (m a w q s) ?_
 intro e k t f
 cases e with
 | normal =>
   obtain ⟨j,r,g,h⟩:=f
   exact p j r k t g h
 | exit id=>exact f
 | goto l=>exact f
 | ret=>exact f
 | panic u=>exact f
 | outgrown=>exact f
theorem QK{ok:ι->Prop}{a:ι->eH}{C:ι->List Ch}(j:ι)(b:ok j)(e:tO E (a j))(f:∀ w,Mm w0 F cs w->Mm w0 F (C j) w):St n w0 F E cs (En n w0 F ok a C):=λ_ w g h=>⟨j,b,g.sub (BQ e),f w h⟩
theorem aJ(h:St n w0 F E cs K):St n w0 F E cs (Exit.then K Q .normal):=h
theorem jB{id:Nat}(h:St n w0 F E cs (Q (.exit id))):St n w0 F E cs (Exit.then K Q (.exit id)):=h
theorem cJ(h:St n w0 F E cs (Q .ret)):St n w0 F E cs (Exit.then K Q .ret):=h
theorem jF{id:Nat}(h:St n w0 F E cs (Q .normal)):St n w0 F E cs (Exit.inBlock id Q .normal):=h
theorem eL{id:Nat}(h:St n w0 F E cs (Q .ret)):St n w0 F E cs (Exit.inBlock id Q .ret):=h
theorem kL{id:Nat}(h:St n w0 F E cs (Q .normal)):St n w0 F E cs (Exit.inBlock id Q (.exit id)):=λa w e b=>by simpa [Exit.inBlock] using h a w e b
theorem uS{id b:Nat}(e:Nat.beq b id=false)(h:St n w0 F E cs (Q (.exit b))):St n w0 F E cs (Exit.inBlock id Q (.exit b)):=λa w g f=>by
 have:=AC3 e
 simpa [Exit.inBlock,this] using h a w g f
theorem lG{u:Operand}{b:Bool}(e:bA E u=some (.bool b))(a:b=true)(h:St n w0 F E cs (x.wp P Q)):St n w0 F E cs ((Code.cond u x y).wp P Q):=nR zg h
theorem fD{u:Operand}{b:Bool}(e:bA E u=some (.bool b))(a:b=false)(h:St n w0 F E cs (y.wp P Q)):St n w0 F E cs ((Code.cond u x y).wp P Q):=oO zg h
theorem Ev.conv{E:eH}{a:Act}(h:Ev n E a){t:Nat}{v:Ω}(f:jS E t=some v)(e:v=v'):Ev n ((t,v')::E) a:=by
 refine h.sub λs u b=>?_
 grind [jS,Nat.eq_of_beq_eq_true]
theorem St.conv{X:Act->World->Prop}(t){v:Ω}(g:jS E t=some v)(e:v=v')(h:St n w0 F ((t,v')::E) cs X):St n w0 F E cs X:=λa w f b=>h a w (f.conv g e) b
theorem St.known{X:Act->World->Prop}(t){b:Bool}(a:jS E t=some (.bool b))(e:b=b')(h:St n w0 F ((t,.bool b')::E) cs X):St n w0 F E cs X:=St.conv t a (by rw [e]) h
theorem St.dec{X:Act->World->Prop}(t){b:Bool}(a:jS E t=some (.bool b))(f:b=true->St n w0 F ((t,.bool true)::E) cs X)(e:b=false->St n w0 F ((t,.bool false)::E) cs X):St n w0 F E cs X:=by
 cases b with
 | true=>exact St.known t a I zg
 | false=>exact St.known t a I zg
def QL(P:Program)(w0:World)(F:List Nat)(E:eH)(cs:List Ch):ResultVar -> Value -> Prop
 | .tmp t,v=>jS E t=some v
 | .cell a t,v=>∃ p,jS E a=some (.pointer (some p)) /\ ∀ w,Mm w0 F cs w -> (loadVar t p).run P w = .ok v w
def Ad(P:Program)(w0:World)(F:List Nat)(E:eH)(cs:List Ch):List ResultVar -> List Value -> Prop
 | [],[]=>True
 | r::rs,v::vs=>QL P w0 F E cs r v /\ Ad P w0 F E cs rs vs
 | _,_=>False
def tQ:List Value -> Value
 | [v]=>v
 | vs=>.tuple vs.toArray
def wF(tmps:Array Value)(r:ResultVar):Sem Value:=match r with
 | .tmp t=>pure (tmps.getD t undef)
 | .cell a t=>do loadVar t (<- asAddr (tmps.getD a undef))
theorem QM(e b):results e b=(do let vs <- e.results.mapM (wF b); pure (if h:vs.size=1 then vs[0] else .tuple vs)):=by
 have:(wF b)=(λ| .tmp t=>pure (b.getD t undef) | .cell a t=>do loadVar t (<- asAddr (b.getD a undef))):=by
  funext r
  cases r <;> rfl
 rw [this]
 rfl
theorem IZ{a:Act}(e:Ev n E a)(f:Mm w0 F cs w):∀ (rs:List ResultVar) (vs:Ξ),Ad P w0 F E cs rs vs->(rs.mapM (wF a.tmps)).run P w = .ok vs w
 | [],[],_=>by simp
 | [],_::_,h=>h.elim
 | _::_,[],h=>h.elim
 | r::rs,v::vs,h=>by
   have k:=IZ e f rs vs h.2
   have j:(wF a.tmps r).run P w = .ok v w:=by
    cases r with
    | tmp t=>simp only [wF,T9,e.val t v h.1]
    | cell b t =>
      obtain ⟨p,i,g⟩:=h.1
      simp only [wF,e.val b _ i,asAddr,P5,T9,J3]
      exact g w f
   rw [List.mapM_cons]
   grind [Sem.run_bind,Result.andThen_ok,Sem.run_pure]
theorem QN(vs:Ξ):(if h:vs.toArray.size=1 then vs.toArray[0] else .tuple vs.toArray)=tQ vs:=by
 match vs with
 | []=>simp [tQ]
 | [v]=>simp [tQ]
 | v::u::l=>simp [tQ]
theorem dL{R:Ending->World->Prop}{rs:List ResultVar}(vs)(hf:fn.results=rs.toArray)(hv:Ad P w0 F E cs rs vs)(hR:∀ w,Mm w0 F cs w->R (.returned (tQ vs)) w):St n w0 F E cs (bodyPost P fn R .ret):=by
 intro a w ha hM
 refine ⟨ha.defers,_,?_,hR w hM⟩
 have h:=IZ ha hM rs vs hv
 rw [QM,hf]
 simp only [List.mapM_toArray,P5]
 have e:(List.toArray <$> rs.mapM (wF a.tmps)).run P w = .ok vs.toArray w:=by
  rw [<- bind_pure_comp]
  grind [Sem.run_bind,Result.andThen_ok,Sem.run_pure]
 grind [Result.andThen_ok,Sem.run_pure,QN]
theorem nF{a:Ending->World->Prop}{rs:List ResultVar}(vs)(e:fn.results=rs.toArray)(f:Ad P w0 F E cs rs vs)(b:∀ w,Mm w0 F cs w->a (.returned (tQ vs)) w):St n w0 F E cs (bodyPost P fn a .normal):=dL vs e f b
theorem wG{c:Code}{args:Ξ}{a:Ending->World->Prop}(F)(z:P.funcs[f]?=some fn)(e:fn.body=some c)(m)(B:(args.length+(fn.ntmps - args.length))=m)(E:eH)(s:tO (args.zipIdx.map λp=>(p.2,p.1)) E)(cs)(g:Mm w F cs w)(h:St m w F E cs (c.wp P (bodyPost P fn a))):Calls P f args.toArray w a:=by
 refine calls_of_wp z e<|h _ _ (⟨by grind,rfl,λt v A=>?_⟩) g
 have q:=BQ s t v A
 have i:∀ (l:List _) (k:Nat),jS ((l.zipIdx k).map λp=>(p.2,p.1)) t=some v->k<=t/\l[t - k]?=some v:=by
  intro l
  induction l with
  | nil=>intro k b; cases b
  | cons u l D =>
    intro k b
    simp only [List.zipIdx_cons,X4,jS] at b
    cases e:Nat.beq k t with
    | true =>
      rw [e] at b
      have:=AAd e
      subst this
      exact ⟨J7 _,by simpa using b⟩
    | false =>
      grind
 obtain ⟨_,j⟩:=i args 0 q
 have r:=(C4.1 j).1
 simp only [Y6]
 rw [AAa (by simpa using r)]
 simpa using U0 (λo=>o.getD undef) j
end
section
variable {P:Program}{Q:Exit -> Act -> World -> Prop}{ops:Array Oper}{md:Region.Mode}{S:World -> Prop}{z:Nat}
def sC(P:Program)(md:Region.Mode)(ops:Array Oper)(Q:Exit -> Act -> World -> Prop)(S:World -> Prop)(z:Nat):Nat -> Array Bool -> Act -> World -> Prop
 | 0,listed,a,w=>Region.ready md ops listed=[] /\ Q .normal a w
 | fuel+1,listed,a,w =>
   (Region.ready md ops listed=[] -> Q .normal a w) /\
   ∀ i∈Region.ready md ops listed,wpOp P ops Q i (λa' w'=>(i=z /\ wpAny P md ops Q fuel (listed.setIfInBounds i true) a' w') \/ (S w' /\ sC P md ops Q S z fuel (listed.setIfInBounds i true) a' w')) a w
theorem Eo:∀ (fuel:Nat) (b:Array Bool) (a:Act) (w:Λ),sC P md ops Q S z fuel b a w->wpAny P md ops Q fuel b a w
 | 0,_,_,_,h=>h
 | fuel+1,_,_,_,h=>⟨h.1,λi e=>wpOp_mono (λd f c=>c.elim (·.2) λc=>Eo fuel _ d f c.2) (h.2 i e)⟩
theorem Ja{S':World->Prop}(d:∀ w,S' w->S w):∀ (fuel:Nat) (b:Array Bool) (a:Act) (w:Λ),sC P md ops Q S' z fuel b a w->sC P md ops Q S z fuel b a w
 | 0,_,_,_,h=>h
 | fuel+1,_,_,_,h=>⟨h.1,λi g=>wpOp_mono (λf e c=>c.imp id λc=>⟨d e c.1,Ja d fuel _ f e c.2⟩) (h.2 i g)⟩
def sD(md:Region.Mode)(ops:Array Oper)(listed:Array Bool):Prop:=∀ k o,ops[k]?=some o -> listed.getD k false=true -> ∀ e∈o.after,Region.binds md e=true -> listed.getD e.on false=true
def wH(md:Region.Mode)(ops:Array Oper):Nat -> Nat -> Nat -> Bool
 | 0,_,_=>false
 | f+1,z,i=>((ops[z]?).map λo=>o.after.any λe=>Region.binds md e && (Nat.beq e.on i || wH md ops f e.on i)).getD false
theorem Jb{a:Array Bool}(l:sD md ops a):∀ (f z i:Nat),(∀ o,ops[z]?=some o->∀ e∈o.after,Region.binds md e=true->a.getD e.on false=true)->wH md ops f z i=true->a.getD i false=true
 | 0,_,_,_,h=>by simp [wH] at h
 | f+1,z,i,s,h=>by
   simp only [wH] at h
   cases n:ops[z]? with
   | none=>grind
   | some o =>
     simp only [n] at h
     obtain ⟨k,r,h⟩:=Array.any_eq_true.1 h
     simp only [V6,ACf] at h
     obtain ⟨j,b⟩:=h
     have m:o.after[k]∈o.after:=Array.getElem_mem r
     generalize o.after[k]=e at j b m
     have q:=s o n e m j
     rcases b with b | b
     .grind [Nat.eq_of_beq_eq_true]
     .exact Jb l f e.on i (λt g p d c=>l e.on t g q p d c) b
theorem Ep{a:Array Bool}{j:Nat}(b:a.getD j true=false)(c:a.getD j false=true):False:=by
 grind
theorem sD.set{a:Array Bool}(g:sD md ops a){j:Nat}(i:j∈Region.ready md ops a):sD md ops (a.setIfInBounds j true):=by
 obtain U:=AF4.1 i
 have l:∀ k,a.getD k false=true->(a.setIfInBounds j true).getD k false=true:=by
  intro k c
  by_cases b:j=k
  .grind
  .rw [AFb _ b]; omega
 intro k o c d e h f
 by_cases b:j=k
 .grind
 .rw [AFb _ b] at d
  exact l _ (g k o c d e h f)
theorem sD.none(md ops m):sD md ops (Array.replicate m false):=by
 intro k o _ a
 rw [Y6,Array.getElem?_replicate] at a
 grind
theorem Er{i:Nat}{s:Oper}{v:Ω}(hi:ops[i]?=some s)(q:∀ (j:Nat) (o:Oper) cs b,ops[j]?=some o->o.op≠.select cs b)(hQ:∀ c a w,Q (.panic c) (a.put s.dst v) w->Q (.panic c) a w)(af:i≠z):
  ∀ (fuel:Nat) (d:Array Bool) (a:Act) (w:Λ),sD md ops d->(d.getD z false=true\/(z < ops.size->wH md ops ops.size z i=true)) ->
    (∀ j t,ops[j]?=some t->j≠i->d.getD j true=false->(∀ e∈t.after,Region.binds md e=true->e.on≠i)->s.apart ops t=true) ->
    i∈Region.ready md ops d->YieldsIf P ops S s v a->S w ->
    sC P md ops Q S z fuel (d.setIfInBounds i true) (a.put s.dst v) w->sC P md ops Q S z (fuel+1) d a w:=by
 intro fuel
 induction fuel with
 | zero =>
   intro d a w _ _ _ K L O H
   refine ⟨zg,λj A=>?_⟩
   by_cases f:j=i
   .subst f; exact L.wpOp hi O zg
   .have:=ADj A f
    rw [H.1] at this
    grind
 | succ fuel ih =>
   intro d a w y u g K L O H
   refine ⟨zg,λj A=>?_⟩
   by_cases f:j=i
   .subst f; exact L.wpOp hi O zg
   .have r:=H.2 j (ADj A f)
    obtain ⟨l,t,m,p⟩:=AF4.1 A
    have D:j≠z:=by
     rintro rfl
     have ad:j < ops.size:=(U9.1 m).1
     rcases u with u | u
     .exact Ep l u
     have:=Jb y _ j i (λo ho e W T=>by
      rw [m] at ho
      cases ho
      simpa [Y6] using p e W T) (u ad)
     exact Ep (AF4.1 K).1 this
    have E:∀ e∈t.after,Region.binds md e=true->e.on≠i:=λe W T X=>by
     have r:=p e W T
     have h0:=(AF4.1 K).1
     rw [X] at r
     rcases W4 i d.size with N | N
     .simp [N] at h0 r; rw [h0] at r; cases r
     .simp [y6 N] at r
    have h2:=wpOp_putIf m (g j t m f l E) (λcs b=>q i s cs b hi) (λcs b=>q j t cs b m) hQ L r
    have n:∀ k ok,ops[k]?=some ok->k≠i->(d.setIfInBounds j true).getD k true=false ->
      (∀ e∈ok.after,Region.binds md e=true->e.on≠i)->s.apart ops ok=true:=λk ok hk ab F ae=>by
     refine g k ok hk ab ?_ ae
     by_cases B:j=k
     .subst B; exact l
     .rw [AFb true B] at F; exact F
    refine wpOp_mono (λa' w' h3=>?_) h2
    have h4:=h3.2.resolve_left λh=>D h.1
    have x:S w':=h4.1
    refine .inr ⟨x,ih _ a' w' (y.set A) (u.imp (λh=>by rw [AFb _ D]; exact h) id) n (ADj K (AIa f)) h3.1 x ?_⟩
    rw [ACd _ _ f]
    exact h4.2
theorem BU{i:Nat}{q:Oper}{v:Ω}(hi:ops[i]?=some q)(m:∀ (j:Nat) (o:Oper) cs b,ops[j]?=some o->o.op≠.select cs b)(N:∀ c a w,Q (.panic c) (a.put q.dst v) w->Q (.panic c) a w):
  ∀ (fuel:Nat) (d:Array Bool) (a:Act) (w:Λ),
    (∀ j r,ops[j]?=some r->j≠i->d.getD j true=false->(∀ e∈r.after,Region.binds md e=true->e.on≠i)->q.apart ops r=true) ->
    i∈Region.ready md ops d->Yields P ops q v a->S w ->
    sC P md ops Q S z fuel (d.setIfInBounds i true) (a.put q.dst v) w->sC P md ops Q S z (fuel+1) d a w:=by
 intro fuel
 induction fuel with
 | zero =>
   intro d a w _ x B hS H
   refine ⟨zg,λj A=>?_⟩
   by_cases f:j=i
   .subst f; exact B.wpOp hi zg
   .have:=ADj A f
    rw [H.1] at this
    cases this
 | succ fuel ih =>
   intro d a w l x B hS H
   refine ⟨λh=>(by rw [h] at x; cases x),λj A=>?_⟩
   by_cases f:j=i
   .subst f; exact B.wpOp hi zg
   .have W:=H.2 j (ADj A f)
    obtain ⟨n,r,p,O⟩:=AF4.1 A
    have u:∀ e∈r.after,Region.binds md e=true->e.on≠i:=λe he hb ab=>by
     grind [mem_ready]
    have X:=wpOp_put p (l j r p f n u) (λcs b=>m i q cs b hi) (λcs b=>m j r cs b p) N B W
    have g:∀ k ok,ops[k]?=some ok->k≠i->(d.setIfInBounds j true).getD k true=false ->
      (∀ e∈ok.after,Region.binds md e=true->e.on≠i)->q.apart ops ok=true:=λk ok hk F y K=>by
     refine l k ok hk F ?_ K
     by_cases t:j=k
     .subst t; exact n
     .rw [AFb true t] at y; exact y
    refine wpOp_mono (λL T D=>?_) X
    rcases D.2 with ⟨hz,E⟩ | ⟨s,E⟩
    .refine .inl ⟨hz,wpAny_first hi m N fuel _ L T g (ADj x (AIa f)) D.1 ?_⟩
     rw [ACd _ _ f]
     exact E
    .refine .inr ⟨s,ih _ L T g (ADj x (AIa f)) D.1 s ?_⟩
     rw [ACd _ _ f]
     exact E
variable {n:Nat}{w0:World}{F:List Nat}{E:eH}{cs css:List Ch}{fuel d:Nat}{listed:Array Bool}
def Any(P:Program)(ops:Array Oper)(Q:Exit -> Act -> World -> Prop)(n:Nat)(w0:World)(F:List Nat)(E:eH)(cs css:List Ch)(z fuel:Nat)(listed:Array Bool):Prop :=
 ∀ a w,Ev n E a -> Mm w0 F cs w -> Mm w0 F css w -> sD .any ops listed -> sC P .any ops Q (Mm w0 F css) z fuel listed a w
theorem dN{id:Nat}{l:List Oper}(css z)(hm:P.follows .mixedOrders=true)(hs:∀ w,Mm w0 F cs w->Mm w0 F css w)(h:Any P l.toArray Q n w0 F E cs css z l.length (Array.replicate l.length false)):St n w0 F E cs ((Code.region id l.toArray true).wp P Q):=by
 intro a w ha hM
 refine wp_region_any hm<|Eo (S:=Mm w0 F css) (z:=z) _ _ _ _ ?_
 have:=h a _ ha hM.drew (hs _ hM.drew) (sD.none _ _ _)
 simpa using this
def sE(ops:Array Oper)(listed:Array Bool)(z i:Nat):Bool :=
 Region.noSelect ops && Region.free .any ops listed i && (Region.ready .any ops listed).contains i && !Nat.beq i z && (listed.getD z false || (!Nat.blt z ops.size || wH .any ops ops.size z i))
theorem Es{i:Nat}(h:sE ops listed z i=true):Region.noSelect ops=true/\Region.free .any ops listed i=true/\i∈Region.ready .any ops listed/\i≠z/\(listed.getD z false=true\/(z < ops.size->wH .any ops ops.size z i=true)):=by
 simp only [sE] at h
 grind [Nat.ne_of_beq_eq_false,Nat.blt_eq]
def nG(ops:Array Oper)(listed:Array Bool)(i:Nat):Bool:=Region.noSelect ops && Region.free .any ops listed i && (Region.ready .any ops listed).contains i
theorem BV{i:Nat}(h:nG ops listed i=true):Region.noSelect ops=true/\Region.free .any ops listed i=true/\i∈Region.ready .any ops listed:=by
 simp only [nG] at h
 grind
theorem Et{i:Nat}{oi:Oper}(v)(hi:ops[i]?=some oi)(hd:oi.dst=some d)(hg:oi.guard=none)(ht:nG ops listed i=true)(hk:dH n E oi=true)(hQ:∀ c a w,Q (.panic c) (a.put oi.dst v) w->Q (.panic c) a w)(hr:∀ w,(execOp (evE E) oi).run P w = .ok (.value v) w)(h:Any P ops Q n w0 F ((d,v)::E) cs css z fuel (listed.setIfInBounds i true)):Any P ops Q n w0 F E cs css z (fuel+1) listed:=by
 intro a w ha hM hS hc
 obtain ⟨t1,t2,t3⟩:=BV ht
 exact BU hi (n9 t1) hQ fuel _ a w (y7 hi t2) t3 (.inl ⟨by simp [Region.wanted,hg],λw'=>by rw [tP hk ha]; exact hr w'⟩) hS (by have h1:=ha.put (uR hk) v; rw [hd] at h1 ⊢; exact h _ _ h1 hM hS (hc.set t3))
theorem Jc{i j:Nat}{b:Bool}{oi:Oper}(v)(hi:ops[i]?=some oi)(hd:oi.dst=some d)(hg:oi.guard=some (j,b))(hy:jN ops E j=some b)(ht:nG ops listed i=true)(hk:dH n E oi=true)(hQ:∀ c a w,Q (.panic c) (a.put oi.dst v) w->Q (.panic c) a w)(hr:∀ w,(execOp (evE E) oi).run P w = .ok (.value v) w)(h:Any P ops Q n w0 F ((d,v)::E) cs css z fuel (listed.setIfInBounds i true)):Any P ops Q n w0 F E cs css z (fuel+1) listed:=by
 intro a w ha hM hS hc
 obtain ⟨t1,t2,t3⟩:=BV ht
 exact BU hi (n9 t1) hQ fuel _ a w (y7 hi t2) t3 (.inl ⟨by simp [Region.wanted,hg,wE ha hy],λw'=>by rw [tP hk ha]; exact hr w'⟩) hS (by have h1:=ha.put (uR hk) v; rw [hd] at h1 ⊢; exact h _ _ h1 hM hS (hc.set t3))
theorem Jd{i j:Nat}{b:Bool}{oi:Oper}(hi:ops[i]?=some oi)(hd:oi.dst=some d)(hg:oi.guard=some (j,!b))(hy:jN ops E j=some b)(ht:nG ops listed i=true)(hdk:nE n (some d)=true)(hQ:∀ c a w,Q (.panic c) (a.put oi.dst undef) w->Q (.panic c) a w)(h:Any P ops Q n w0 F ((d,undef)::E) cs css z fuel (listed.setIfInBounds i true)):Any P ops Q n w0 F E cs css z (fuel+1) listed:=by
 intro a w ha hM hS hc
 obtain ⟨t1,t2,t3⟩:=BV ht
 exact BU hi (n9 t1) hQ fuel _ a w (y7 hi t2) t3 (.inr ⟨by cases b <;> simp [Region.wanted,hg,wE ha hy],I⟩) hS (by rw [hd]; exact h _ _ (ha.put hdk undef) hM hS (hc.set t3))
theorem BW{i:Nat}{oi:Oper}(v)(hi:ops[i]?=some oi)(hd:oi.dst=some d)(hg:oi.guard=none)(ht:sE ops listed z i=true)(hk:dH n E oi=true)(hQ:∀ c a w,Q (.panic c) (a.put oi.dst v) w->Q (.panic c) a w)(hr:∀ w,Mm w0 F css w->(execOp (evE E) oi).run P w = .ok (.value v) w)(h:Any P ops Q n w0 F ((d,v)::E) cs css z fuel (listed.setIfInBounds i true)):Any P ops Q n w0 F E cs css z (fuel+1) listed:=by
 intro a w ha hM hS hc
 obtain ⟨t1,t2,t3,t4,t5⟩:=Es ht
 exact Er hi (n9 t1) hQ t4 fuel _ a w hc t5 (y7 hi t2) t3 (.inl ⟨by simp [Region.wanted,hg],λw' hw'=>by rw [tP hk ha]; exact hr w' hw'⟩) hS (by have h1:=ha.put (uR hk) v; rw [hd] at h1 ⊢; exact h _ _ h1 hM hS (hc.set t3))
theorem gM{i j:Nat}{b:Bool}{oi:Oper}(v)(hi:ops[i]?=some oi)(hd:oi.dst=some d)(hg:oi.guard=some (j,b))(hy:jN ops E j=some b)(ht:sE ops listed z i=true)(hk:dH n E oi=true)(hQ:∀ c a w,Q (.panic c) (a.put oi.dst v) w->Q (.panic c) a w)(hr:∀ w,Mm w0 F css w->(execOp (evE E) oi).run P w = .ok (.value v) w)(h:Any P ops Q n w0 F ((d,v)::E) cs css z fuel (listed.setIfInBounds i true)):Any P ops Q n w0 F E cs css z (fuel+1) listed:=by
 intro a w ha hM hS hc
 obtain ⟨t1,t2,t3,t4,t5⟩:=Es ht
 exact Er hi (n9 t1) hQ t4 fuel _ a w hc t5 (y7 hi t2) t3 (.inl ⟨by simp [Region.wanted,hg,wE ha hy],λw' hw'=>by rw [tP hk ha]; exact hr w' hw'⟩) hS (by have h1:=ha.put (uR hk) v; rw [hd] at h1 ⊢; exact h _ _ h1 hM hS (hc.set t3))
theorem kT{i j:Nat}{b:Bool}{oi:Oper}(hi:ops[i]?=some oi)(hd:oi.dst=some d)(hg:oi.guard=some (j,!b))(hy:jN ops E j=some b)(ht:sE ops listed z i=true)(hdk:nE n (some d)=true)(hQ:∀ c a w,Q (.panic c) (a.put oi.dst undef) w->Q (.panic c) a w)(h:Any P ops Q n w0 F ((d,undef)::E) cs css z fuel (listed.setIfInBounds i true)):Any P ops Q n w0 F E cs css z (fuel+1) listed:=by
 intro a w ha hM hS hc
 obtain ⟨t1,t2,t3,t4,t5⟩:=Es ht
 exact Er hi (n9 t1) hQ t4 fuel _ a w hc t5 (y7 hi t2) t3 (.inr ⟨by cases b <;> simp [Region.wanted,hg,wE ha hy],I⟩) hS (by rw [hd]; exact h _ _ (ha.put hdk undef) hM hS (hc.set t3))
def nT(P:Program)(ops:Array Oper)(Q:Exit -> Act -> World -> Prop)(w0:World)(F:List Nat)(css:List Ch)(z fuel:Nat)(listed:Array Bool)(i:Nat)(a:Act)(w:World):Prop :=
 sD .any ops (listed.setIfInBounds i true) -> (i=z /\ wpAny P .any ops Q fuel (listed.setIfInBounds i true) a w) \/ (Mm w0 F css w /\ sC P .any ops Q (Mm w0 F css) z fuel (listed.setIfInBounds i true) a w)
theorem Eu{rs:List Nat}(j:Region.ready .any ops listed=rs)(c:rs.isEmpty=false)(h:∀ i∈rs,∃ e,ops[i]?=some e/\e.guard=none/\eK P Q n w0 F E cs e (nT P ops Q w0 F css z fuel listed i)):Any P ops Q n w0 F E cs css z (fuel+1) listed:=by
 intro a w q p t r
 refine ⟨λf=>?_,λi g=>?_⟩
 .rw [j] at f
  rw [f] at c
  cases c
 .have b:=g
  rw [j] at b
  obtain ⟨e,k,l,m⟩:=h i b
  unfold wpOp
  simp only [k]
  rw [P1 (by simp [Region.wanted,l])]
  exact .inl (AGb (λs u o=>o (r.set g)) (m a w q p))
theorem dW{i:Nat}{a:Oper}(b:Region.ready .any ops listed=[i])(hi:ops[i]?=some a)(c:a.guard=none)(h:eK P Q n w0 F E cs a (nT P ops Q w0 F css z fuel listed i)):Any P ops Q n w0 F E cs css z (fuel+1) listed :=
 Eu b I zg
theorem kU{i j:Nat}{a b:Oper}(f:Region.ready .any ops listed=[i,j])(hi:ops[i]?=some a)(c:a.guard=none)(k:ops[j]?=some b)(e:b.guard=none)(h:eK P Q n w0 F E cs a (nT P ops Q w0 F css z fuel listed i))(g:eK P Q n w0 F E cs b (nT P ops Q w0 F css z fuel listed j)):Any P ops Q n w0 F E cs css z (fuel+1) listed :=
 Eu f I zg
theorem Ew{i j:Nat}{b:Bool}{e:Oper}(l:Region.ready .any ops listed=[i])(hi:ops[i]?=some e)(t:e.guard=some (j,b))(u:jN ops E j=some b)(h:eK P Q n w0 F E cs e (nT P ops Q w0 F css z fuel listed i)):Any P ops Q n w0 F E cs css z (fuel+1) listed:=by
 intro a w p o s q
 refine ⟨λf=>?_,λk g=>?_⟩
 .rw [l] at f
  cases f
 .have c:=g
  rw [l,G2] at c
  subst c
  unfold wpOp
  simp only [hi]
  rw [P1 (by grind [Region.wanted,wE])]
  exact .inl (AGb (λr x m=>m (q.set g)) (h a w p o))
theorem aQ{i:Nat}(b)(g:∀ w,Mm w0 F b w->Mm w0 F css w)(j:∀ w,Mm w0 F cs w->Mm w0 F b w)(h:Any P ops Q n w0 F E cs b z fuel (listed.setIfInBounds i true)):St n w0 F E cs (nT P ops Q w0 F css z fuel listed i) :=
 λa w e c f=>.inr ⟨zg,Ja g _ _ _ _ (h a w e c zg f)⟩
theorem Ex{i:Nat}(b j)(g:i=z)(k:∀ w,Mm w0 F cs w->Mm w0 F b w)(h:Any P ops Q n w0 F E cs b j fuel (listed.setIfInBounds i true)):St n w0 F E cs (nT P ops Q w0 F css z fuel listed i) :=
 λa w e c f=>.inl ⟨g,Eo _ _ _ _ (h a w e c zg f)⟩
theorem lH{i:Nat}(e:Region.ready .any ops (listed.setIfInBounds i true)=[])(f:i=z)(h:St n w0 F E cs (Q .normal)):St n w0 F E cs (nT P ops Q w0 F css z fuel listed i) :=
 λa w c b _=>.inl ⟨f,by
  cases fuel with
  | zero=>exact ⟨e,h a w c b⟩
  | succ k=>exact ⟨λ_=>h a w c b,by rw [e]; simp⟩⟩
theorem Any.known(t){b b':Bool}(j:jS E t=some (.bool b))(e:b=b')(h:Any P ops Q n w0 F ((t,.bool b')::E) cs css z fuel listed):Any P ops Q n w0 F E cs css z fuel listed:=λa w g c f i=>h a w (g.conv j (by rw [e])) c f i
theorem Any.dec(t){b:Bool}(a:jS E t=some (.bool b))(e:b=true->Any P ops Q n w0 F ((t,.bool true)::E) cs css z fuel listed)(c:b=false->Any P ops Q n w0 F ((t,.bool false)::E) cs css z fuel listed):Any P ops Q n w0 F E cs css z fuel listed:=by
 cases b with
 | true=>exact Any.known t a I zg
 | false=>exact Any.known t a I zg
theorem cG(e:Region.ready .any ops listed=[])(h:St n w0 F E cs (Q .normal)):Any P ops Q n w0 F E cs css z fuel listed :=
 λa w c b _ _=>by
  cases fuel with
  | zero=>exact ⟨e,h a w c b⟩
  | succ k=>exact ⟨λ_=>h a w c b,by grind⟩
end
section
variable {P:Program}{Q:Exit -> Act -> World -> Prop}{n:Nat}{w0:World}{F:List Nat}{E:eH}{cs:List Ch}{K:Act -> World -> Prop}{o:Oper}{d:Nat}
def eD(P:Program)(w0:World)(F:List Nat)(cs:List Ch)(E:eH)(o:Oper)(v:Value):Prop:=∀ w,Mm w0 F cs w -> (execOp (evE E) o).run P w = .ok (.value v) w
theorem cU{v:Ω}(h:bA E x=some v):evE E x=v:=by unfold evE; grind
theorem gY{v:Ω}(h:eD P w0 F cs E o v)(e:v=v'):eD P w0 F cs E o v':=e▸h
theorem gZ{v:Ω}(h:∀ w,(execOp (evE E) o).run P w = .ok (.value v) w):eD P w0 F cs E o v:=λw _=>h w
theorem jC{v:Ω}(a:o.op = .move x)(b:bA E x=some v):eD P w0 F cs E o v:=λw _=>by
 unfold execOp; simp only [a,cU b]; rfl
theorem Ey{v:Ω}(a:o.op = .assign x)(b:bA E x=some v):eD P w0 F cs E o v:=λw _=>by
 unfold execOp; simp only [a,cU b]; rfl
def sF(P:Program)(ty:TypeId):Bool:=match P.underlying ty with | some (.struct _) | some (.array _ _) | none=>false | _=>true
theorem Je(h:sF P ty=true)(w):(isAgg ty).run P w = .ok false w:=by
 unfold sF at h
 unfold isAgg
 cases a:P.underlying ty with
 | none=>rw [a] at h; cases h
 | some d =>
   rw [a] at h
   rw [P5,X3 a w]
   cases d <;> first | (cases h; done) | rfl
theorem QO(b:sF P ty=true){p:Addr}{v:Ω}(a:w.cell? p=some v):(loadVar ty p).run P w = .ok v w:=by
 simp only [loadVar,P5,Je b,J3]
 simp [load,Sem.run,a]
theorem Jf{p:Addr}{v:Ω}(b:o.op = .load ty x)(e:bA E x=some (.pointer (some p)))(c:sF P ty=true)(a:w.cell? p=some v):(execOp (evE E) o).run P w = .ok (.value v) w:=by
 unfold execOp
 simp only [b,cU e,Instr.loadAt,Instr.sureAddr,P5,T9,J3,QO c a]
theorem bW{b off:Nat}{v:Ω}(i:Nat)(ho:o.op = .load ty x)(hx:bA E x=some (.pointer (some ⟨b,off,none⟩)))(hs:sF P ty=true)(hi:cs[i]?=some (aD b t l))(hl:l[off]?=some v):eD P w0 F cs E o v :=
 λw hM=>Jf ho hx hs (by have h:At w b t l:=hM.at hi; rw [h.cell]; omega)
theorem gN{p:Addr}{v:Ω}(a:o.op = .load ty x)(c:bA E x=some (.pointer (some p)))(b:sF P ty=true)(f:∀ w,Mm w0 F cs w->w.cell? p=some v):eD P w0 F cs E o v :=
 λw e=>Jf a c b zg
theorem Mm.gA(h:Mm w0 F cs w){b off:Nat}{v:Ω}(e:w0.cell? ⟨b,off,none⟩=some v)(c:b∉F):w.cell? ⟨b,off,none⟩=some v:=by
 have a:b < w0.heap.size:=by
  grind [World.cell?]
 rw [h.fr.cell a c]
 omega
def iL(P:Program)(ty:TypeId):Option Nat:=(P.info? ty).map (·.size)
def Ae(P:Program)(ty:TypeId):Bool:=match P.underlying ty with | some (.struct _) | some (.array _ _)=>true | _=>false
theorem dU(f:Ae P ty=true){b off:Nat}(a:iL P ty=some seg.length)(e:∀ j v,seg[j]?=some v->w.cell? ⟨b,off+j,none⟩=some v):(loadVar ty ⟨b,off,none⟩).run P w = .ok (.agg seg.toArray) w:=by
 cases c:P.underlying ty with
 | none=>simp [Ae,c] at f
 | some d=>exact Ea w b off ty seg d e c (by grind [Ae]) a
theorem gI{b off:Nat}(a:Ξ)(g:o.op = .load ty x)(i:bA E x=some (.pointer (some ⟨b,off,none⟩)))(h:Ae P ty=true)(c:iL P ty=some a.length)(f:∀ w,Mm w0 F cs w->∀ j v,a[j]?=some v->w.cell? ⟨b,off+j,none⟩=some v):eD P w0 F cs E o (.agg a.toArray) :=
 λw e=>by
  unfold execOp
  grind [cU,Instr.loadAt,Instr.sureAddr,Sem.run_bind,Sem.run_pure,Result.andThen_ok,dU]
theorem cW{i b off:Nat}(hi:cs[i]?=some (aD b t l))(hg:∀ j v,seg[j]?=some v->l[off+j]?=some v):∀ w,Mm w0 F cs w->∀ j v,seg[j]?=some v->w.cell? ⟨b,off+j,none⟩=some v :=
 λw hM j v hj=>by have h:At w b t l:=hM.at hi; rw [h.cell]; grind
theorem Jg{b:Nat}:∀ (vs l:Ξ) (w:Λ) (off k:Nat),At w b t l->off+k+vs.length<=l.length->(∀ v∈vs,v.oneCell'=true) ->
  ∃ w',(storeCells ⟨b,off,none⟩ vs k).run P w = .ok () w'/\Fr [b] w w'/\At w' b t (l.take (off+k)++vs++l.drop (off+k+vs.length))
 | [],l,w,off,k,hat,_,_=>⟨w,by simp [storeCells],Fr.refl _ _,by simpa using hat⟩
 | v::vs,l,w,off,k,hat,hl,h1=>by
   rw [V0] at hl
   have hlt:off+k < l.length:=by omega
   obtain ⟨u,hu⟩:∃ u,l[off+k]?=some u:=⟨_,E1 hlt⟩
   have hc:w.cell? ⟨b,off+k,none⟩=some u:=by rw [hat.cell]; exact hu
   have hfz:w.frozen? ⟨b,off+k,_⟩=false:=hat.frozen _
   have hv:v.oneCell'=true:=h1 v (by simp)
   obtain ⟨w',hr,hf,ha⟩:=Jg vs (l.set (off+k) v) _ off (k+1) (hat.set _ _) (by rw [a6]; omega) (λx hx=>h1 x (by simp [hx]))
   have hstep:(store ⟨b,off+k,none⟩ v).run P w = .ok () (w.setCell ⟨b,off+k,none⟩ v):=by
    rw [run_store P w _ v _ hv]
    simp [hc,hfz]
   refine ⟨w',?_,((Fr.refl [b] w).setCell (by simp) _).trans hf,?_⟩
   .rw [storeCells]
    simp only [P5,kB,hstep,J3,hr]
   .have e:(l.set (off+k) v).take (off+(k+1))++vs++(l.set (off+k) v).drop (off+(k+1)+vs.length)=l.take (off+k)++v::vs++l.drop (off+k+(v::vs).length):=by
     have e1:off+(k+1)=(off+k)+1:=by omega
     rw [e1,O5 (by rw [a6]; exact hlt),List.getElem_set_self,List.take_set_of_le (J7 _),List.drop_set_of_lt (by omega),V0,show off+k+1+vs.length=off+k+(vs.length+1) by omega]
     simp
    rw [<- e]
    exact ha
theorem dE{b off:Nat}{v:Ω}(i l')(ho:o.op = .store ty x y)(hd:o.dst=none)(hk:dH n E o=true)(hx:bA E x=some (.pointer (some ⟨b,off,none⟩)))(hy:bA E y=some v)(hv:v.cells=vs.toArray)(hsz:iL P ty=some vs.length)(hi:cs[i]?=some (aD b t l))(hfit:off+vs.length<=l.length)(h1:∀ u∈vs,u.oneCell'=true)(hl':l'=l.take off++vs++l.drop (off+vs.length))(h:St n w0 F E (cs.set i (aD b t l')) K):eK P Q n w0 F E cs o K :=
 Em hd hk λw hM=>by
  have hat:At w b t l:=hM.at hi
  obtain ⟨w',hr,hf,ha⟩:=Jg (P:=P) vs l w off 0 hat (by simpa using hfit) h1
  refine ⟨w',_,?_,hM.swap i hi (c':=aD b t l') hf ?_ (λc hc=>.inl hc) (by simp [aD]),h⟩
  .unfold execOp
   have hs:((P.info? ty).map _)=some _:=hsz
   cases hq:P.info? ty with
   | none=>grind
   | some j =>
     have hj:j.size=vs.length:=by grind
     simp only [ho,cU hx,cU hy,Instr.storeAt,Instr.sureAddr,storeVar,sizeOf,typeInfo,hv]
     simp [hq,hj,hr]
  .show At w' b t l'
   grind
theorem hZ{b off:Nat}{v:Ω}(i)(j:o.op = .store ty x y)(f:o.dst=none)(g:dH n E o=true)(k:bA E x=some (.pointer (some ⟨b,off,none⟩)))(m:bA E y=some v)(e:v.oneCell'=true)(c:iL P ty=some 1)(hi:cs[i]?=some (aD b t l))(a:off < l.length)(h:St n w0 F E (cs.set i (aD b t (l.set off v))) K):eK P Q n w0 F E cs o K :=
 dE i (l.set off v) (vs:=[v]) j f g k m (by cases v <;> first | rfl | (simp [Value.oneCell'] at e)) c hi (by simp; omega) (by simpa using e) (by rw [AAe,P1 a]; simp) h
theorem QP(z:Ξ)(ho:o.op = .alloc ty)(hd:o.dst=some d)(hk:dH n E o=true)(hz:(P.info? ty).map (λi=>i.zero.map Value.cells)=some (some z.toArray))(h:∀ b,St n w0 F ((d,(.pointer (some ⟨b,0,none⟩)))::E) (cs++[aD b ty z]) K):eK P Q n w0 F E cs o K :=
 pH hd hk λw hM=>by
  refine ⟨_,_,_,?_,hM.push ((Fr.refl _ _).alloc _) (At.new w ty z) (by simp [aD]) (by simp [aD]),h _⟩
  unfold execOp
  cases hq:P.info? ty with
  | none=>grind
  | some i =>
    cases hz0:i.zero with
    | none=>grind
    | some v =>
      have hv:v.cells=z.toArray:=by simpa [hq,hz0] using hz
      simp only [ho,Instr.alloc,zeroValue,typeInfo]
      simp [hq,hz0,newVar,newRow,hv]
theorem Ez{v:Ω}(z:Ξ)(ho:o.op = .box ty x)(hd:o.dst=some d)(hk:dH n E o=true)(hx:bA E x=some v)(hz:v.cells=z.toArray)(h:∀ b,St n w0 F ((d,(.pointer (qa b)))::E) (cs++[aD b ty z]) K):eK P Q n w0 F E cs o K :=
 pH hd hk λw hM=>by
  refine ⟨.pointer (some ⟨w.heap.size,0,none⟩),w.alloc (.cells z.toArray ty),_,?_,hM.push (c:=aD w.heap.size ty z) ((Fr.refl _ _).alloc _) (At.new w ty z) (by simp [aD]) (by simp [aD]),h _⟩
  unfold execOp
  simp only [ho,cU hx,Instr.box,newVar,newRow,hz]
  simp
theorem Jh{v:Nat->Value}(t)(z:Ξ)(hd:o.dst=some d)(hk:dH n E o=true)(hr:∀ w,(execOp (evE E) o).run P w = .ok (.value (v w.heap.size)) (w.alloc (.cells z.toArray t)))(h:∀ b,St n w0 F ((d,(v b))::E) (cs++[aD b t z]) K):eK P Q n w0 F E cs o K :=
 pH hd hk λw hM=>⟨_,_,_,hr w,hM.push (c:=aD w.heap.size t z) ((Fr.refl _ _).alloc _) (At.new w t z) (by simp [aD]) (by simp [aD]),h _⟩
theorem mI{i:Operand}{b off len cap j sz:Nat}(h:o.op = .indexAddr ty x i)(l:P.underlying ty=some (.slice e))(a:iL P e=some sz)(m:bA E x=some (.slice (some ⟨b,off,none⟩) len cap))(hi:bA E i=some (.int k (j:Int)))(g:j < len):eD P w0 F cs E o (.pointer (some ⟨b,off+j*sz,none⟩)):=λw _=>by
 unfold execOp
 cases c:P.info? e with
 | none=>simp [iL,c] at a
 | some d =>
  have f:d.size=sz:=by simpa [iL,c] using a
  simp only [h,cU m,cU hi,Instr.indexAt,asIntOf,P5,T9,J3,X3 l]
  rw [P1 (by omega)]
  simp only [sizeOf,typeInfo,P5,T9]
  simp [c,f,kB]
theorem tR{i:Operand}{b off len cap j:Nat}(f:o.op = .indexAddr ty x i)(g:P.underlying ty=some (.slice e))(c:iL P e=some 1)(h:bA E x=some (.slice (some ⟨b,off,none⟩) len cap))(hi:bA E i=some (.int k (j:Int)))(a:j < len):eD P w0 F cs E o (.pointer (some ⟨b,off+j,none⟩)):=by
 have:=mI (w0:=w0) (F:=F) (cs:=cs) f g c h hi a
 grind
theorem QQ{i:Operand}{b off m j sz:Nat}(h:o.op = .indexAddr ty x i)(l:P.underlying ty=some (.array m e))(a:iL P e=some sz)(p:bA E x=some (.pointer (some ⟨b,off,none⟩)))(hi:bA E i=some (.int k (j:Int)))(g:j < m):eD P w0 F cs E o (.pointer (some ⟨b,off+j*sz,none⟩)):=λw _=>by
 unfold execOp
 cases c:P.info? e with
 | none=>simp [iL,c] at a
 | some d =>
  have f:d.size=sz:=by simpa [iL,c] using a
  simp only [h,cU p,cU hi,Instr.indexAt,Instr.sureAddr,asIntOf,P5,T9,J3,X3 l]
  rw [P1 (by omega)]
  simp only [sizeOf,typeInfo,P5,T9]
  simp [c,f,kB]
theorem nU{i:Operand}{b off m j:Nat}(f:o.op = .indexAddr ty x i)(g:P.underlying ty=some (.array m e))(c:iL P e=some 1)(h:bA E x=some (.pointer (some ⟨b,off,none⟩)))(hi:bA E i=some (.int k (j:Int)))(a:j < m):eD P w0 F cs E o (.pointer (some ⟨b,off+j,none⟩)):=by
 have:=QQ (w0:=w0) (F:=F) (cs:=cs) f g c h hi a
 grind
end
def eT(A:Option Addr):List Nat:=match A with | some a=>[a.block] | none=>[]
theorem wI(h:w.ownsRow base e sz (.slice A n c) n xs):(Value.slice A n c).ownBlock=(eT A).head?/\∀ b∈eT A,b < w.heap.size:=by
 rcases h.2 with ⟨a,_⟩ | ⟨g,cap,d,a,_,f,_⟩
 .simp only [R6] at a
  obtain ⟨rfl,_,rfl⟩:=a
  exact ⟨I,by simp [eT]⟩
 .simp only [R6] at a
  obtain ⟨rfl,_,rfl⟩:=a
  exact ⟨I,by simpa [eT] using (U9.1 f).1⟩
def bD(e:TypeId)(sz:Nat)(A:Option Addr)(n c:Nat)(xs:List Value):Ch where
 fp:=eT A
 holds w:=w.ownsRow 0 e sz (.slice A n c) n xs
 ok w w' hb h:=by
  refine ⟨h.1,?_⟩
  rcases h.2 with hn | ⟨g,cap,cur,hv,h1,hgg,rest⟩
  .exact .inl hn
  .refine .inr ⟨g,cap,cur,hv,h1,?_,rest⟩
   simp only [Value.slice.injEq] at hv
   obtain ⟨rfl,_,_⟩:=hv
   rw [hb g (by simp [eT])]
   exact hgg
 lt w h b hb:=(wI h).2 b hb
abbrev cB(A:Option Addr)(l:List UInt8)(c:Nat):Ch:=bD 5 1 A l.length c (B8 l)
theorem uT(A):(eT A).Nodup:=by cases A <;> simp [eT]
section
variable {P:Program}{Q:Exit -> Act -> World -> Prop}{n:Nat}{w0:World}{F:List Nat}{E:eH}{cs:List Ch}{K:Act -> World -> Prop}{o:Oper}{d:Nat}
theorem Mm.Iu(h:Mm w0 F cs w)(i){sz:Nat}{m c:Nat}(hi:cs[i]?=some (bD e sz A m c xs)){m':Nat}(ho:w'.ownsRow 0 e sz v' m' xs')(hg:w.grownBy w' (Value.slice A m c).ownBlock)(hb:v'.ownBlock=(Value.slice A m c).ownBlock\/∃ k,v'.ownBlock=some k/\w.heap.size<=k):∃ A' c',v' = .slice A' m' c'/\Mm w0 F (cs.set i (bD e sz A' m' c' xs')) w':=by
 obtain ⟨A',c',rfl⟩:=lC ho
 have ho1:w.ownsRow 0 e sz (.slice A m c) m xs:=h.at hi
 have f1:=wI ho1
 have f2:=wI ho
 have hfr:Fr (eT A) w w':=by
  refine ⟨hg.os,hg.tape,hg.output,hg.size,λk hk hn=>hg.block k hk (λe=>?_)⟩
  rw [f1.1] at e
  cases A with
  | none=>cases e
  | some a=>simp [eT] at e hn; exact hn e
 refine ⟨A',c',I,h.swap i hi hfr ho ?_ (uT A')⟩
 intro b hb'
 have e2:(eT A').head?=some b:=by
  cases A' with
  | none=>simp [bD,eT] at hb'
  | some a=>simp [bD,eT] at hb'; simp [eT,hb']
 rcases hb with h1 | ⟨k,h1,h2⟩
 .left
  rw [f2.1,e2,f1.1] at h1
  show b∈eT A
  cases A with
  | none=>cases h1
  | some a=>simp [eT] at h1 ⊢; exact h1
 .right
  rw [f2.1,e2] at h1
  injection h1 with h1
  omega
theorem cL{sz bt:Nat}(El:lN P t e z sz bt){m c m2 c2:Nat}(i)(news:Ξ)(ho:o.op = .call { callee:=.builtin .append,args:=#[s,x],argTypes:=#[t,t] })(hd:o.dst=some d)(hk:dH n E o=true)(hs:bA E s=some (.slice A m c))(hx:bA E x=some (.slice A2 m2 c2))(hi:cs[i]?=some (bD e sz A m c xs))(hl:news.length=m2*sz)(hsrc:∀ w,Mm w0 F cs w->eN w A2 news)(h1:∀ u∈news,u.oneCell'=true)(hlen:m+m2<=137438953472)(m')(hm:m+m2=m')(xs')(hxs:xs++news=xs')(h:∀ A' c',St n w0 F ((d,(.slice A' m' c'))::E) (cs.set i (bD e sz A' m' c' xs')) K):eK P Q n w0 F E cs o K :=
 pH hd hk λw hM=>by
  subst hm hxs
  obtain ⟨v',w',hr,h2,h3,h4⟩:=IG El w 0 o.type (.slice A m c) m xs (hM.at hi) A2 m2 c2 news hl (hsrc w hM) h1 hlen (G6 _)
  obtain ⟨A',c',rfl,h5⟩:=hM.Iu i hi h2 h3 (h4.imp id (λe=>⟨_,e,J7 _⟩))
  refine ⟨_,w',_,?_,h5,h A' c'⟩
  unfold execOp
  simp only [ho,resolve,invoke,builtin,P5,T9,J3,Z1,X4,Y8,cU hs,cU hx,hr]
theorem nW{sz bt:Nat}(El:lN P t e z sz bt){b m2 c2:Nat}(i)(news:Ξ)(ho:o.op = .call { callee:=.builtin .append,args:=#[s,x],argTypes:=#[t,t] })(hd:o.dst=some d)(hk:dH n E o=true)(hs:bA E s=some (.slice (some ⟨b,0,none⟩) 0 0))(hx:bA E x=some (.slice A2 m2 c2))(hi:cs[i]?=some (aD b e []))(hl:news.length=m2*sz)(hsrc:∀ w,Mm w0 F cs w->eN w A2 news)(h1:∀ u∈news,u.oneCell'=true)(hlen:m2<=137438953472)(m')(hm:m2=m')(xs')(hxs:news=xs')(h:∀ A' c',St n w0 F ((d,(.slice A' m' c'))::E) (cs.set i (bD e sz A' m' c' xs')) K):eK P Q n w0 F E cs o K:=by
 intro a w ha hM
 have hat:At w b e []:=hM.at hi
 have hM2:Mm w0 F (cs.set i (bD e sz (some ⟨b,0,none⟩) 0 0 [])) w:=by
  exact hM.swap i hi (Fr.refl _ _) (⟨si,.inr ⟨b,0,#[],I,U,hat,U,U,si,si⟩⟩) (λk hk=>.inl hk) (by simp [bD,eT])
 have hlt:=(C4.1 hi).1
 have:=cL (Q:=Q) (w0:=w0) (F:=F) (K:=K) (xs:=[]) (cs:=cs.set i (bD e sz (some ⟨b,0,none⟩) 0 0 [])) El i news ho hd hk hs hx zg hl (λw' hw'=>?_) h1 U m' U xs' (su hxs) (λA' c'=>by grind [List.set_set])
 .exact this a w ha hM2
 .refine hsrc w' ?_
  have ho':w'.ownsRow 0 e sz _ 0 []:=hw'.at (by rw [X7 hlt])
  have:=hw'.swap i (c':=aD b e []) (X7 hlt) (Fr.refl _ _) ?_ (λk hk=>.inl hk) (by simp [aD])
  .rw [ABg] at this
   have e:cs.set i (aD b e [])=cs:=by
    apply s6
    intro j
    rw [AC4]
    split
    .rename_i h1
     subst h1
     rw [hi]
    .rfl
   rwa [e] at this
  .rcases ho'.2 with ⟨hv,_⟩ | ⟨g,cap,cur,hv,_,hg,_,_,hcs,_⟩
   .cases hv
   .simp only [R6,V4,Addr.mk.injEq] at hv
    obtain ⟨⟨rfl,_⟩,_,rfl⟩:=hv
    have:cur = #[]:=by rw [<- Array.size_eq_zero_iff]; simpa using hcs
    subst this
    exact hg
theorem wJ{m c:Nat}(i)(ho:o.op = .call { callee:=.builtin .append,args:=#[s,x],argTypes:=#[t,u] })(hd:o.dst=some d)(ht:P.underlying t=some (.slice e))(hu:P.underlying u=some .string)(hinfo:(P.info? e).map (λi=>(i.zero,i.size,i.bytes))=some (some (.int .u8 0),1,1))(hk:dH n E o=true)(hs:bA E s=some (.slice A m c))(hx:bA E x=some (vS bs))(hi:cs[i]?=some (bD e 1 A m c xs))(hlen:m+bs.length<=137438953472)(m')(hm:m+bs.length=m')(xs')(hxs:xs++B8 bs=xs')(h:∀ A' c',St n w0 F ((d,(.slice A' m' c'))::E) (cs.set i (bD e 1 A' m' c' xs')) K):eK P Q n w0 F E cs o K :=
 pH hd hk λw hM=>by
  subst hm hxs
  obtain ⟨j,hj,hz,hsz,hby⟩:=AA6 hinfo
  have hsz':(bL bs).size=bs.length:=by simp [bL,ByteArray.size]
  have hce:Lib.strCells (bL bs)=B8 bs:=by simp [Lib.strCells,bL,B8]
  obtain ⟨v',w',hr,h2,h3,h4⟩:=Lib.run_append_own_string (w:=w) 0 t u o.type e j ht hu hj hz hsz hby _ m xs (hM.at hi) (bL bs) (by rw [hsz']; unfold maxLen; omega) (by rw [hsz']; omega) (Nat.zero_le _)
  rw [hsz',hce] at h2
  have hb:v'.ownBlock=(Value.slice A m c).ownBlock\/∃ k,v'.ownBlock=some k/\w.heap.size<=k:=by
   obtain ⟨A',c',rfl⟩:=lC h2
   have f1:=wI (hM.at hi)
   have f2:=wI h2
   have hown:w.ownsRow 0 e 1 _ m xs:=hM.at hi
   rcases hown.2 with ⟨hv,h0⟩ | ⟨g,cap,cur,hv,_,hg,hnc,_,hcs,htk⟩
   .simp only [R6] at hv
    obtain ⟨rfl,rfl,rfl⟩:=hv
    by_cases h00:(bL bs).size=0
    .have:=h4.2 ⟨I,h00⟩
     rw [this]
     exact .inl I
    .have hr2:=run_append_nil_string w t u o.type e j _ ht hu hj hz (bL bs) U (by rw [hsz']; omega) (by rw [hby,hsz']; omega)
     rw [hr] at hr2
     injection hr2 with e1 e2
     rw [e1]
     exact .inr ⟨_,I,J7 _⟩
   .simp only [R6] at hv
    obtain ⟨rfl,_,rfl⟩:=hv
    by_cases hroom:m+(bL bs).size<=c
    .have hr2:=Lib.run_append_room_string w t u o.type e j ht hu hj hsz g m c cur hg _ hroom U
     rw [hr] at hr2
     injection hr2 with e1 e2
     rw [e1]
     exact .inl I
    .have hr2:=Lib.run_append_grow_string w t u o.type e j _ ht hu hj hz _ m c xs (by rw [hsz]; exact hown.1) (hown.cells I) (bL bs) U (by rw [hsz']; omega) (by rw [hby]; exact growslice_fits U U)
     rw [hr] at hr2
     injection hr2 with e1 e2
     rw [e1]
     exact .inr ⟨_,I,J7 _⟩
  obtain ⟨A',c',rfl,h5⟩:=hM.Iu i hi h2 h3 hb
  refine ⟨_,w',_,?_,h5,h A' c'⟩
  unfold execOp
  simp only [ho,resolve,invoke,builtin,P5,T9,J3,Z1,X4,Y8,cU hs,cU hx,hr]
theorem EA{sz i:Nat}{m c:Nat}(hi:cs[i]?=some (bD e sz A m c xs)):∀ w,Mm w0 F cs w->eN w A xs:=λ_ hM=>eN.bM (hM.at hi)
theorem fE{i b off:Nat}(hi:cs[i]?=some (aD b t l))(hx:∀ j v,xs[j]?=some v->l[off+j]?=some v):∀ w,Mm w0 F cs w->eN w (some ⟨b,off,none⟩) xs:=λw hM j v hj =>
 ⟨_,I,by rw [kB]; have h:At w b t l:=hM.at hi; rw [h.cell]; grind⟩
theorem EB:∀ w,Mm w0 F cs w->eN w none []:=λ_ _ j v a=>by simp at a
theorem Mm.BH(h:Mm w0 F cs w)(i){b:Nat}(hi:cs[i]?=some (aD b e l))(sz m c)(hl:l.length=c*sz)(hm:m<=c)(hmax:c<=maxLen):Mm w0 F (cs.set i (bD e sz (qa b) m c (l.take (m*sz)))) w:=by
 have hat:At w b e l:=h.at hi
 refine h.swap i hi (Fr.refl _ _) ?_ (λk hk=>.inl hk) (by simp [bD,eT])
 refine ⟨?_,.inr ⟨b,c,_,I,G6 _,hat,hm,hmax,?_,?_⟩⟩
 .rw [I8,hl]
  exact Y0 (Y4 _ hm)
 .omega
 .simp
theorem Mm.gB(h:Mm w0 F cs w)(e sz):Mm w0 F (cs++[bD e sz none 0 0 []]) w :=
 h.push (c:=bD e sz none 0 0 []) (Fr.refl _ _) ⟨si,.inl ⟨I,I⟩⟩ (by simp [bD,eT]) (by simp [bD,eT])
theorem BY{i:Operand}{l:Γ}{j:Nat}{y:UInt8}(b:o.op = .index ty x i)(c:P.underlying ty=some .string)(e:bA E x=some (vS l))(hi:bA E i=some (.int k (j:Int)))(f:l[j]?=some y):eD P w0 F cs E o (.int .u8 (y.toNat:Int)):=λw _=>by
 unfold execOp
 have a:(bL l)[j]?=some y:=by
  grind [bL,ByteArray.size,ByteArray.getElem_eq_getElem_data]
 simp only [b,cU e,cU hi,Instr.index,asIntOf,P5,T9,J3,X3 c]
 rw [P1 U]
 simp [a]
theorem kM{cap m:Nat}(bs:Γ)(g:o.op = .convert src dst x)(i:P.underlying src=some (.slice e))(c:P.underlying e=some (.int .u8))(b:P.underlying dst=some .string)(j:bA E x=some (.slice A m cap))(f:m=bs.length)(h:∀ w,Mm w0 F cs w->aI w A (B8 bs)):eD P w0 F cs E o (.string (bL bs)):=λw a=>by
 grind [execOp,cU,Sem.run_bind,wD,Sem.run_pure,Result.andThen_ok]
theorem fM{i:Nat}{m c:Nat}(hi:cs[i]?=some (bD e 1 A m c xs)):∀ w,Mm w0 F cs w->aI w A xs:=λ_ hM=>aI.bM (hM.at hi)
theorem BZ{i b off:Nat}(hi:cs[i]?=some (aD b t l))(hx:∀ j v,xs[j]?=some v->l[off+j]?=some v):∀ w,Mm w0 F cs w->aI w (some ⟨b,off,none⟩) xs:=λw hM j v hj=>by
 have h:At w b t l:=hM.at hi
 exact ⟨b,off,I,h.lt,by rw [h.cell]; grind⟩
theorem Mm.PH(h:Mm w0 F cs w)(k:Fr [] w w'){sz:Nat}{v:Ω}{m:Nat}(f:w'.ownsRow w.heap.size e sz v m xs):∃ A c,v = .slice A m c/\Mm w0 F (cs++[bD e sz A m c xs]) w':=by
 obtain ⟨A,c,rfl⟩:=lC f
 refine ⟨A,c,I,h.push k (xS f (G6 _)) ?_ (uT A)⟩
 intro b j
 rcases f.2 with ⟨a,_⟩ | ⟨g,cap,i,a,l,_⟩
 .simp only [R6] at a
  obtain ⟨rfl,_,_⟩:=a
  simp [bD,eT] at j
 .simp only [R6] at a
  obtain U:=a
  grind [bD,eT]
theorem St.acA{X:Act->World->Prop}(i){sz:Nat}{m c:Nat}(hi:cs[i]?=some (bD e sz A m c xs))(hm:0 < m)(h:∀ g rest,A=some ⟨g,0,none⟩->m<=c->St n w0 F E (cs.set i (aD g e (xs++rest))) X):St n w0 F E cs X:=by
 intro a w ha hM
 have ho:w.ownsRow 0 e sz _ m xs:=hM.at hi
 rcases ho.2 with ⟨_,h0⟩ | ⟨g,cap,cur,hv,_,hg,hnc,_,hcs,ht⟩
 .omega
 .simp only [R6] at hv
  obtain ⟨rfl,_,rfl⟩:=hv
  have hat:At w g e (xs++cur.toList.drop (m*sz)):=by
   unfold At
   rw [<- ht,S6]
   simpa using hg
  refine h g _ I hnc a w ha (hM.swap i hi (Fr.refl _ _) hat (λb hb=>.inl (by simpa [aD,bD,eT] using hb)) (by simp [aD]))
theorem sG{z:Ξ}(h:z.length=L.length):L=z.take 0++L++z.drop (0+L.length):=by grind
end
theorem qV{a:Int}(b:-9223372036854775808<=a)(c:a<=9223372036854775807):IntKind.i64.wrap a=a:=by grind [IntKind.wrap_i64]
theorem kV{a:Int}(b:0<=a)(c:a < 18446744073709551616):IntKind.u64.wrap a=a:=by grind [IntKind.wrap_u64]
section
variable {P:Program}{Q:Exit -> Act -> World -> Prop}{n:Nat}{w0:World}{F:List Nat}{E:eH}{cs:List Ch}{K:Act -> World -> Prop}{o:Oper}{d:Nat}
theorem pY(e t x y k c a b w):(eqGuard e t x y (.int k a) (.int c b)).run P w = .ok () w:=by
 unfold eqGuard
 simp
theorem pZ{ty u:Υ}{x y:Operand}{a b:Int}(c)(ho:o.op = .binOp .add ty x y u)(hx:bA E x=some (C a))(hy:bA E y=some (C b))(hc:a+b=c)(h1:-9223372036854775808<=c)(h2:c<=9223372036854775807):eD P w0 F cs E o (C c):=λw _=>by
 unfold execOp
 simp only [ho,cU hx,cU hy,P5,pY,J3,binOp,Op.intArith,hc,qV h1 h2]
 simp
theorem jT{ty u:Υ}{x y:Operand}{a b:Int}(c)(ho:o.op = .binOp .sub ty x y u)(hx:bA E x=some (C a))(hy:bA E y=some (C b))(hc:a - b=c)(h1:-9223372036854775808<=c)(h2:c<=9223372036854775807):eD P w0 F cs E o (C c):=λw _=>by
 unfold execOp
 simp only [ho,cU hx,cU hy,P5,pY,J3,binOp,Op.intArith,hc,qV h1 h2]
 simp
theorem EC{a b:Int}(c)(h:o.op = .binOp .mul ty x y u)(i:bA E x=some (C a))(j:bA E y=some (C b))(g:a*b=c)(e:-9223372036854775808<=c)(f:c<=9223372036854775807):eD P w0 F cs E o (C c):=λw _=>by
 unfold execOp
 simp only [h,cU i,cU j,P5,pY,J3,binOp,Op.intArith,g,qV e f]
 simp
theorem QR{a b:Int}(c)(i:o.op = .binOp .quo ty x y u)(j:bA E x=some (C a))(k:bA E y=some (C b))(g:b≠0)(h:a.tdiv b=c)(e:-9223372036854775808<=c)(f:c<=9223372036854775807):eD P w0 F cs E o (C c):=λw _=>by
 unfold execOp
 simp only [i,cU j,cU k,P5,pY,J3,binOp,Op.intDiv,h,qV e f]
 simp [g]
theorem ED{a b:Int}(c)(g:o.op = .binOp .rem ty x y u)(h:bA E x=some (.int k a))(i:bA E y=some (.int k b))(e:b≠0)(f:a.tmod b=c):eD P w0 F cs E o (.int k c):=λw _=>by
 unfold execOp
 simp only [g,cU h,cU i,P5,pY,J3,binOp,Op.intDiv,f]
 simp [e]
theorem uU{a b:Int}(e)(f:e = .and\/e = .or\/e = .xor\/e = .andNot)(c)(h:o.op = .binOp e ty x y u)(i:bA E x=some (.int k a))(j:bA E y=some (.int k b))(g:bits e k a b=c):eD P w0 F cs E o (.int k c):=λw _=>by
 unfold execOp
 rcases f with rfl | rfl | rfl | rfl <;>
 .subst g
  simp only [h,cU i,cU j,P5,pY,J3,binOp,Op.intBits,bits]
  simp
theorem iQ{s:Υ}{a:Int}(c)(e:∀ w,(execOp (evE E) o).run P w = .ok (.value (.int k' (k'.wrap a))) w)(_ho:o.op = .convert s t x)(_hx:bA E x=some (.int k a))(b:k'.wrap a=c):eD P w0 F cs E o (.int k' c):=λw _=>by rw [e w,b]
theorem wK(p):(bL p).toList=p:=by grind [Lib.toList_data,bL]
theorem Ca(p q:Γ):(p == q)=decide (p=q):=by grind
theorem lQ{p:Γ}(a:o.op = .binOp .eql ty x y u)(b:bA E x=some (vS p))(c:bA E y=some (vS q)):eD P w0 F cs E o (.bool (decide (p=q))):=λw _=>by
 unfold execOp
 simp only [a,cU b,cU c,eqGuard,binOp,Op.stringOp,wK,Ca]
 simp
theorem qC{p:Γ}(a:o.op = .binOp .neq ty x y u)(b:bA E x=some (vS p))(c:bA E y=some (vS q)):eD P w0 F cs E o (.bool (!decide (p=q))):=λw _=>by
 unfold execOp
 simp only [a,cU b,cU c,eqGuard,binOp,Op.stringOp,wK,Ca]
 simp
end
section
variable {P:Program}{w0:World}{F:List Nat}{E:eH}{cs:List Ch}{o:Oper}
theorem wL{p:Γ}(a:o.op = .binOp .lss ty x y u)(b:bA E x=some (vS p))(c:bA E y=some (vS q)):eD P w0 F cs E o (.bool (decide (p < q))):=λw _=>by
 unfold execOp
 simp only [a,cU b,cU c,eqGuard,binOp,Op.stringOp,wK,AGc]
 simp
theorem tS{p:Γ}(a:o.op = .binOp .geq ty x y u)(b:bA E x=some (vS p))(c:bA E y=some (vS q)):eD P w0 F cs E o (.bool (!decide (p < q))):=λw _=>by
 unfold execOp
 simp only [a,cU b,cU c,eqGuard,binOp,Op.stringOp,wK,AGc]
 simp
theorem Ji{p:Γ}(a:o.op = .binOp .leq ty x y u)(b:bA E x=some (vS p))(c:bA E y=some (vS q)):eD P w0 F cs E o (.bool (decide (p < q) || decide (p=q))):=λw _=>by
 unfold execOp
 simp only [a,cU b,cU c,eqGuard,binOp,Op.stringOp,wK,Ca,AGc]
 simp
theorem Cb{p:Γ}(a:o.op = .binOp .gtr ty x y u)(b:bA E x=some (vS p))(c:bA E y=some (vS q)):eD P w0 F cs E o (.bool (!(decide (p < q) || decide (p=q)))):=λw _=>by
 unfold execOp
 simp only [a,cU b,cU c,eqGuard,binOp,Op.stringOp,wK,Ca,AGc]
 simp
theorem Cc{k y:Nat}(a)(h:k<=y)(w):(Instr.sliceBound (.int kd (k:Int)) y a).run P w = .ok k w:=by
 simp only [Instr.sliceBound,asIntOf,P5,T9,J3]
 rw [P1 U]
 simp
theorem QT(A:Δ):A.map (λx=>x.add 0)=A:=by cases A <;> simp [Addr.add]
theorem sH{n c k:Nat}(g:o.op = .slice ty x none (some h) none)(l:P.underlying ty=some (.slice e))(j:(iL P e).isSome=true)(m:bA E x=some (.slice A n c))(d:bA E h=some (.int kd (k:Int)))(f:k<=c):eD P w0 F cs E o (.slice A k c):=λw _=>by
 obtain ⟨sz,a⟩:=AA7.1 j
 unfold execOp
 cases b:P.info? e with
 | none=>simp [iL,b] at a
 | some i =>
   simp only [g,cU m,k9,AG6,cU d,Instr.sliceAt,Instr.slice,Instr.sliceBounds,P5,T9,J3,X3 l,Cc _ f,sizeOf,typeInfo]
   simp [b,QT]
theorem sI{l:Operand}{n c k sz:Nat}(h:o.op = .slice ty x (some l) none none)(j:P.underlying ty=some (.slice e))(b:iL P e=some sz)(m:bA E x=some (.slice A n c))(g:bA E l=some (.int kd (k:Int)))(f:k<=n):eD P w0 F cs E o (.slice (if c=k then A else A.map (·.add (k*sz))) (n - k) (c - k)):=λw _=>by
 unfold execOp
 cases a:P.info? e with
 | none=>simp [iL,a] at b
 | some i =>
   have d:i.size=sz:=by simpa [iL,a] using b
   simp only [h,cU m,k9,AG6,cU g,Instr.sliceAt,Instr.slice,Instr.sliceBounds,P5,T9,J3,X3 j,Cc _ f,sizeOf,typeInfo]
   simp [a,d]
theorem EE{l:Operand}{n c k m sz:Nat}(q:o.op = .slice ty x (some l) (some h) none)(r:P.underlying ty=some (.slice e))(b:iL P e=some sz)(s:bA E x=some (.slice A n c))(j:bA E l=some (.int kd (k:Int)))(d:bA E h=some (.int kh (m:Int)))(g:k<=m)(p:m<=c):eD P w0 F cs E o (.slice (if c=k then A else A.map (·.add (k*sz))) (m - k) (c - k)):=λw _=>by
 unfold execOp
 cases a:P.info? e with
 | none=>simp [iL,a] at b
 | some i =>
   have f:i.size=sz:=by simpa [iL,a] using b
   simp only [q,cU s,k9,AG6,cU j,cU d,Instr.sliceAt,Instr.slice,Instr.sliceBounds,P5,T9,J3,X3 r,Cc _ g,Cc _ p,sizeOf,typeInfo]
   simp [a,f]
theorem qD{c k:Nat}(h:aI w A xs)(g:xs.length<=c):eN w (if c=k then A else A.map (·.add (k*1))) (xs.drop k):=by
 intro j u d
 rw [W8] at d
 have f:=(C4.1 d).1
 obtain ⟨b,o,e,_,a⟩:=h _ _ d
 rw [P4 U,e]
 refine ⟨_,I,?_⟩
 show w.cell? (((⟨b,o,none⟩:Addr).add (k*1)).add j)=some u
 rw [X1,kB,kB,Z4]
 omega
theorem qE(h:aI w A xs)(k):eN w A (xs.take k):=by
 intro j u a
 obtain U:=h j u (by
  grind)
 grind [kB]
end
end
section
def Ro(S:List Nat)(w:World)(Φ:World -> Prop):Prop:=∀ w',Fr S w w' -> Φ w'
abbrev yD(ms:List Ch):List Nat:=ms.flatMap Ch.fp
abbrev cC(ms:List Ch)(w:World):Prop:=Mm w (yD ms) ms w
abbrev Rf(ms:List Ch)(w:World)(Φ:World -> Prop):Prop:=Ro (yD ms) w Φ
abbrev aN(ms:List Ch)(w:World)(post:List Ch)(w':World):Prop:=Mm w (yD ms) post w'
section
variable {w0 w w':World}{F S:List Nat}{cs:List Ch}{Φ Ψ:World -> Prop}
theorem Ro.here(h:Ro S w Φ):Φ w:=h w (Fr.refl _ _)
theorem Ro.now(h:Ro F w0 Φ)(a:Mm w0 F cs w):Φ w:=h w a.fr
theorem Ro.imp(h:Ro S w Φ)(hi:∀ w,Φ w->Ψ w):Ro S w Ψ:=λw' a=>hi w' (h w' a)
theorem Ro.and(h:Ro S w Φ)(k:Ro S w Ψ):Ro S w (λw=>Φ w/\Ψ w):=λw' a=>⟨h w' a,k w' a⟩
theorem Ro.step(h:Ro F w0 Φ)(a:Fr F w0 w)(d:∀ b∈S,b∈F\/w0.heap.size<=b):Ro S w Φ:=λw' c=>h w' (a.trans' c d)
theorem Ro.go(h:Ro F w0 Φ)(a:Mm w0 F cs w){ms:List Ch}(g:∀ c∈ms,c∈cs):Rf ms w Φ :=
 h.step a.fr λb d=>by
  obtain ⟨c,f,e⟩:=T5.1 d
  exact a.own b zg
theorem Cd{cs:List Ch}(h:(cs.flatMap Ch.fp).Nodup){i j:Nat}{c d:Ch}(hi:cs[i]?=some c)(g:cs[j]?=some d)(e:i≠j):∀ b∈c.fp,b∉d.fp:=by
 have o:=IY hi
 rw [o] at h
 obtain ⟨_,_,_,k⟩:=IX h
 intro b n f
 obtain ⟨l,m⟩:=k b n
 rcases Nat.lt_or_gt_of_ne e with a | a
 .refine m<|T5.2 ⟨d,F0 (i:=j - (i+1)) ?_,f⟩
  rw [W8,show i+1+(j - (i+1))=j by omega]
  exact g
 .refine l<|T5.2 ⟨d,F0 (i:=j) ?_,f⟩
  rw [Y5 a]
  exact g
def pk(cs:List Ch)(is:List Nat):List Ch:=is.filterMap λi=>cs[i]?
def Af:List Nat -> Bool
 | []=>true
 | i::is=>!is.contains i && Af is
theorem EF{cs:List Ch}{a:List Nat}{c:Ch}(h:c∈pk cs a):∃ i∈a,cs[i]?=some c:=AE2.1 h
theorem Jj{cs:List Ch}(h:(cs.flatMap Ch.fp).Nodup):∀ a:List Nat,Af a=true->((pk cs a).flatMap Ch.fp).Nodup
 | [],_=>by simp [pk]
 | i::a,m=>by
   rw [Af,V6] at m
   obtain ⟨o,p⟩:=m
   have n:=Jj h a p
   cases f:cs[i]? with
   | none=>rw [show pk cs _=pk cs a by simp [pk,f]]; exact n
   | some c =>
     rw [show pk cs _=c::pk cs a by simp [pk,f],V5,X9]
     refine ⟨?_,n,?_⟩
     .have t:[c].Sublist cs:=List.singleton_sublist.2 (F0 f)
      have:=h.sublist (Ek t)
      simpa using this
     .intro b q u g e
      subst e
      obtain ⟨d,r,k⟩:=T5.1 g
      obtain ⟨j,s,l⟩:=EF r
      refine Cd h f l (λe=>?_) b q k
      subst e
      simp [s] at o
theorem Mm.pick{w0 w:Λ}{F:List Nat}{cs cs':List Ch}(h:Mm w0 F cs w)(is)(hn:Af is=true)(he:pk cs is=cs'):Mm w0 F cs' w:=by
 subst he
 refine ⟨h.fr,λc hc=>?_,Jj h.nodup is hn,λb hb=>?_⟩
 .obtain ⟨i,_,hi⟩:=EF hc
  exact h.at hi
 .obtain ⟨c,hc,hbc⟩:=T5.1 hb
  obtain U:=EF hc
  exact h.own b zg
theorem Mm.PI(hM:Mm w0 F cs w){ms:List Ch}{j:Nat}{c:Ch}(hj:cs[j]?=some c)(hd:∀ m∈ms,∃ i,cs[i]?=some m/\i≠j)(hi:∀ w,c.holds w->Φ w):Rf ms w Φ:=λw' hf =>
 hi w' (c.ok w w' (λb hb=>hf.block b (c.lt w (hM.at hj) b hb) λhb'=>by
  obtain ⟨m,hm,hbm⟩:=T5.1 hb'
  obtain ⟨i,h1,h2⟩:=hd m hm
  exact Cd hM.nodup hj h1 U b hb hbm) (hM.at hj))
theorem Mm.aR(a:Mm w0 F cs w){j:Nat}{c:Ch}(b:cs[j]?=some c)(hi:∀ w,c.holds w->Φ w):Rf [] w Φ:=a.PI b si hi
theorem Ro.aX(h:Ro F w0 Φ)(a:Mm w0 F cs w):Rf [] w Φ:=h.go a si
def jG(cs:List Ch)(is:List Nat):List Ch:=is.filterMap λi=>cs[i]?
def aU:List Ch -> List Nat -> List Ch -> List Ch
 | cs,i::is,c::l=>aU (cs.set i c) is l
 | cs,_,_=>cs
def uV(n:Nat)(is:List Nat):List Nat:=(List.range n).filter λi=>!is.contains i
theorem QU(cs):jG cs (List.range cs.length)=cs:=by
 apply s6
 intro i
 unfold jG
 have a:∀ (l:List Ch) (k n:Nat),(∀ i,i < n->k+i < l.length)->((List.range n).map (k + ·)).filterMap (λi=>l[i]?)=(l.drop k).take n:=by
  intro l k n
  induction n with
  | zero=>simp
  | succ n d =>
    intro h
    rw [AAi,U1,List.filterMap_append,d λi b=>h i U]
    have c:=h n U
    rw [V9]
    simp [E1 c]
 have h:=a cs 0 cs.length (by intro i b; omega)
 simp only [K7,List.map_id',AAb,R0] at h
 rw [h]
theorem QW(n)(a:List Nat)(c:a.Nodup)(b:∀ i∈a,i < n):(List.range n).Perm (a++uV n a):=by
 rw [List.perm_ext_iff_of_nodup List.nodup_range]
 .grind [uV]
 .rw [X9]
  grind [List.nodup_range,uV]
theorem EG(cs:List Ch)(a:List Nat)(c:a.Nodup)(b:∀ i∈a,i < cs.length):cs.Perm (jG cs a++jG cs (uV cs.length a)):=by
 grind [QW,QU,jG]
theorem EH:∀ (a:List Nat) (cs l:List Ch),(aU cs a l).length=cs.length
 | [],cs,l=>by cases l <;> rfl
 | i::a,cs,[]=>rfl
 | i::a,cs,c::l=>by rw [aU,EH a,a6]
theorem EI:∀ (a:List Nat) (cs l:List Ch) (k:Nat),k∉a->(aU cs a l)[k]?=cs[k]?
 | [],cs,l,k,_=>by cases l <;> rfl
 | i::a,cs,[],k,_=>rfl
 | i::a,cs,c::l,k,h=>by
   rw [aU,EI a _ l k (λb=>h (X2 _ b)),List.getElem?_set_ne (λe=>h (by rw [e]; exact j9))]
theorem Jk:∀ (is:List Nat) (cs l:List Ch),is.Nodup->(∀ i∈is,i < cs.length)->l.length=is.length->jG (aU cs is l) is=l
 | [],cs,l,_,_,h=>by cases l <;> simp_all [jG]
 | i::is,cs,[],_,_,h=>by grind
 | i::is,cs,c::l,hn,hlt,h=>by
   obtain ⟨h1,h2⟩:=ACg.1 hn
   have e:(aU (cs.set i c) is l)[i]?=some c:=by
    grind [EI]
   show jG (aU (cs.set i c) is l) (i::is)=c::l
   unfold jG
   rw [List.filterMap_cons_some e]
   congr 1
   exact Jk is _ l h2 zg (su h)
theorem Mm.con(t:Mm w0 F cs w)(d){ms ms' news:List Ch}(E:jG cs d=ms)(y:d.Nodup)(s:∀ i∈d,i < cs.length)(D:ms'.length=d.length)(o:aN ms w (ms'++news) w'):
  Mm w0 F (aU cs d ms'++news) w':=by
 subst E
 have H:=t.fr.size
 have z:=EG cs d y s
 have f:=t.perm z
 have h:=EG (aU cs d ms') d y (λi L=>by rw [EH]; grind)
 rw [Jk d cs ms' y s D,EH] at h
 have q:jG (aU cs d ms') (uV cs.length d)=jG cs (uV cs.length d):=by
  have K:∀ l:List Nat,(∀ k∈l,k∉d)->jG (aU cs d ms') l=jG cs l:=by
   intro l
   induction l with
   | nil=>intro _; rfl
   | cons k l N =>
     grind [jG,EI]
  grind [uV]
 rw [q] at h
 generalize jG cs d=ms at f o z
 generalize jG cs (uV cs.length d)=rest at f z h
 refine Mm.perm (cs:=ms'++news++rest) ?_ ?_
 .have p:=f.nodup
  rw [R3,X9] at p
  have m:∀ b∈rest.flatMap _,b∉ms.flatMap _:=λb g u=>p.2.2 b u b g I
  have n:∀ b∈ms.flatMap Ch.fp,b∈F\/w0.heap.size<=b:=λb g=>f.own b (by grind)
  refine ⟨t.fr.trans' o.fr n,?_,?_,?_⟩
  .intro c j
   rcases P7.1 j with j | j
   .exact o.hold c j
   .have A:=f.hold c (p5 _ j)
    exact c.ok w w' (λb g=>o.fr.block b (c.lt w A b g) (m b (T5.2 ⟨c,j,g⟩))) A
  .rw [R3,X9]
   refine ⟨o.nodup,p.2.1,λa B b g e=>?_⟩
   subst e
   rcases o.own a B with r | r
   .exact m a g r
   .obtain ⟨c,j,x⟩:=T5.1 g
    have:=c.lt w (f.hold c (p5 _ j)) a x
    omega
  .intro b g
   rw [R3] at g
   rcases P7.1 g with g | g
   .rcases o.own b g with r | r
    .exact n b r
    .exact .inr U
   .exact f.own b (by rw [R3]; exact p5 _ g)
 .refine List.Perm.trans ?_ (h.symm.append_right news)
  rw [D1,D1]
  exact List.Perm.append_left _ List.perm_append_comm
theorem Mm.PJ(f:Mm w0 F cs w)(c){ms:List Ch}(j:jG cs c=ms)(h:c.Nodup)(e:∀ i∈c,i < cs.length):cC ms w:=by
 subst j
 have d:=f.perm (EG cs c h e)
 have a:=d.sub (List.sublist_append_left _ _)
 exact ⟨Fr.refl _ _,a.hold,a.nodup,λb g=>.inl g⟩
theorem Mm.acB{news:List Ch}(a:Mm w0 F cs w)(b:aN [] w news w'):Mm w0 F (cs++news) w':=a.con [] (ms:=[]) (ms':=[]) (news:=news) I zg si I b
end
def qW(n:Nat):List Nat -> Bool
 | []=>true
 | i::is=>Nat.blt i n && !is.contains i && qW n is
theorem yE:∀ {a:List Nat},qW n a=true->a.Nodup/\∀ i∈a,i < n
 | [],_=>by simp
 | i::a,h=>by
   simp only [qW,V6,AC5] at h
   obtain ⟨c,d⟩:=yE h.2
   refine ⟨ACg.2 ⟨by simpa using h.1.2,c⟩,λj b=>?_⟩
   rcases T0.1 b with rfl | b
   .grind [Nat.blt_eq]
   grind
section
variable {P:Program}{Q:Exit -> Act -> World -> Prop}{n:Nat}{w0:World}{F:List Nat}{E:eH}{cs:List Ch}{X K:Act -> World -> Prop}{ops:Array Oper}{o oi:Oper}{rest:List Oper}{d:Nat}
theorem fT(a:List Nat)(ms){args:Array Value}(h:∀ w,Mm w0 F cs w->cC ms w->Calls P f args w λe j=>∃ v ms' news,e = .returned v/\aN ms w (ms'++news) j/\ms'.length=a.length/\St n w0 F ((d,v)::E) (aU cs a ms'++news) K)(m:o.dst=some d:=by rfl)(i:jG cs a=ms:=by rfl)(p:qW cs.length a=true:=by rfl)(q:dH n E o=true:=by kernel_rfl)(s:∀ w,(execOp (evE E) o).run P w = .ok (.enter f args) w:=by intro _; kernel_rfl):eK P Q n w0 F E cs o K:=by
 obtain ⟨c,g⟩:=yE p
 refine eR f args m q s λw b=>(h w b (b.PJ a i c g)).mono ?_
 rintro e j ⟨v,ms',news,rfl,k,r,l⟩
 exact ⟨v,_,I,b.con a i c g r k,l⟩
theorem iR{args:Array Value}(h:∀ w,Mm w0 F cs w->Calls P f args w λe b=>∃ v news,e = .returned v/\aN [] w news b/\St n w0 F ((d,v)::E) (cs++news) K)(i:o.dst=some d:=by rfl)(j:dH n E o=true:=by kernel_rfl)(k:∀ w,(execOp (evE E) o).run P w = .ok (.enter f args) w:=by intro _; kernel_rfl):eK P Q n w0 F E cs o K:=by
 refine eR f args i j k λw a=>(h w a).mono ?_
 rintro e b ⟨v,news,rfl,c,g⟩
 exact ⟨v,_,I,a.acB c,g⟩
theorem lc(v)(h:St n w0 F ((d,v)::E) cs (wpList P ops Q rest))(b:o.guard=none:=by rfl)(a:o.dst=some d:=by rfl)(c:dH n E o=true:=by kernel_rfl)(e:∀ w,(execOp (evE E) o).run P w = .ok (.value v) w:=by intro _; kernel_rfl):St n w0 F E cs (wpList P ops Q (o::rest)):=li b (fH v a c zg h)
theorem lv{v:Ω}(e:eD P w0 F cs E o v)(h:St n w0 F ((d,v)::E) cs (wpList P ops Q rest))(b:o.guard=none:=by rfl)(a:o.dst=some d:=by rfl)(c:dH n E o=true:=by kernel_rfl):St n w0 F E cs (wpList P ops Q (o::rest)):=li b (fH v a c e h)
abbrev SS(l:List (List UInt8)):List Value:=l.map λp=>.string (bL p)
abbrev cS(A:Option Addr)(l:List (List UInt8))(c:Nat):Ch:=bD 9 1 A l.length c (SS l)
theorem fR{l:List Γ}{i:Nat}{x:Γ}(h:l[i]?=some x):(SS l)[i]?=some (vS x):=by grind
theorem tT{l:Γ}{i:Nat}{x:UInt8}(h:l[i]?=some x):(B8 l)[i]?=some (.int .u8 (x.toNat:Int)):=uN l i x h
theorem tU{b:Nat}(h:At w b t l)(e:xs=l):aI w (some ⟨b,0,none⟩) xs:=λj v a=>⟨b,0,I,h.lt,by rw [h.cell,K7,<- e]; exact a⟩
theorem qX{i:Nat}{v:Ω}(h:aI w A xs)(a:xs[i]?=some v):∃ b o,A=some ⟨b,o,none⟩:=by
 obtain U:=h i v a
 grind
theorem yF{i b o:Nat}{v:Ω}(h:aI w A xs)(a:xs[i]?=some v)(c:A=some ⟨b,o,none⟩):w.cell? ⟨b,o+i,none⟩=some v:=by
 obtain U:=h i v a
 grind
theorem St.fC{i:Nat}{v:Ω}(h:∀ w,Mm w0 F cs w->aI w A xs)(g:xs[i]?=some v)(k:∀ b o,A=some ⟨b,o,none⟩->(∀ w,Mm w0 F cs w->w.cell? ⟨b,o+i,none⟩=some v)->St n w0 F E cs X):St n w0 F E cs X:=λa w j f=>by
 obtain ⟨b,o,e⟩:=qX (h w f) g
 exact k b o e (λl c=>yF (h l c) g e) a w j f
theorem Any.fC{e:List Ch}{z fuel:Nat}{c:Array Bool}{i:Nat}{v:Ω}(h:∀ w,Mm w0 F e w->aI w A xs)(l:xs[i]?=some v)(k:∀ b o,A=some ⟨b,o,none⟩->(∀ w,Mm w0 F e w->w.cell? ⟨b,o+i,none⟩=some v)->Any P ops Q n w0 F E cs e z fuel c):Any P ops Q n w0 F E cs e z fuel c:=λa w p m j q=>by
 obtain ⟨b,o,g⟩:=qX (h w j) l
 exact k b o g (λr f=>yF (h r f) l g) a w p m j q
theorem qF{i:Operand}{b off len cap j:Nat}(g:o.op = .indexAddr ty x i)(h:P.underlying ty=some (.slice e))(c:iL P e=some 1)(l:bA E x=some (.slice A len cap))(hi:bA E i=some (.int k (j:Int)))(f:A=some ⟨b,off,none⟩)(a:j < len):eD P w0 F cs E o (.pointer (some ⟨b,off+j,none⟩)):=by
 grind [tR]
def yG(ops:Array Oper)(E:eH)(i:Nat):Bool :=
 match (ops[i]?).bind (·.dst) with
 | some t=>match jS E t with | some (.bool _)=>false | some _=>true | none=>false
 | none=>false
theorem Jl{a:Act}(e:Ev n E a){i:Nat}(h:yG ops E i=true):yielded ops a.tmps i=none:=by
 unfold yG at h
 unfold yielded
 cases f:(ops[i]?).bind (·.dst) with
 | none=>grind
 | some t =>
   rw [f] at h
   cases b:jS E t with
   | none=>grind
   | some v =>
     simp only [b] at h
     have c:=e.val t _ b
     rw [Y6] at c
     grind
theorem QX{i:Nat}{b:Bool}(k:o.guard=some (i,b))(j:o.dst=some d)(g:nE n (some d)=true)(l:yG ops E i=true)(h:St n w0 F ((d,undef)::E) cs (wpList P ops Q rest)):St n w0 F E cs (wpList P ops Q (o::rest)) :=
 λa w f e=>wpList_step λ_ c=>by
  rw [P4 (by grind [Region.wanted,Jl])]
  rw [j]
  exact c _ _ (h _ _ (f.put g _) e)
theorem QY{css:List Ch}{z fuel:Nat}{listed:Array Bool}{i j:Nat}{b:Bool}(hi:ops[i]?=some oi)(hd:oi.dst=some d)(hg:oi.guard=some (j,b))(hy:yG ops E j=true)(ht:nG ops listed i=true)(hdk:nE n (some d)=true)(hQ:∀ c a w,Q (.panic c) (a.put oi.dst undef) w->Q (.panic c) a w)(h:Any P ops Q n w0 F ((d,undef)::E) cs css z fuel (listed.setIfInBounds i true)):Any P ops Q n w0 F E cs css z (fuel+1) listed:=by
 intro a w ha hM hS hc
 obtain ⟨t1,t2,t3⟩:=BV ht
 exact BU hi (n9 t1) hQ fuel _ a w (y7 hi t2) t3 (.inr ⟨by simp [Region.wanted,hg,Jl ha hy],I⟩) hS (by rw [hd]; exact h _ _ (ha.put hdk undef) hM hS (hc.set t3))
theorem oP{cs':List Ch}(e:∀ w,Mm w0 F cs w->Mm w0 F cs' w)(h:eK P Q n w0 F E cs' o K):eK P Q n w0 F E cs o K:=λa w b c=>h a w b zg
theorem Ro.bJ{Φ:World->Prop}(h:Ro F w0 Φ)(b:Mm w0 F cs w)(g){ms:List Ch}(f:jG cs g=ms:=by rfl):Rf ms w Φ:=h.go b λc a=>by
 rw [<- f] at a
 obtain ⟨i,_,e⟩:=AE2.1 a
 exact F0 e
theorem Mm.fX{Φ:World->Prop}(k:Mm w0 F cs w)(f){ms:List Ch}{j:Nat}{c:Ch}(l:cs[j]?=some c)(hi:∀ w,c.holds w->Φ w)(p:jG cs f=ms:=by rfl)(b:f.contains j=false:=by rfl):Rf ms w Φ:=k.PI l (λm a=>by
 rw [<- p] at a
 obtain ⟨i,g,h⟩:=AE2.1 a
 exact ⟨i,h,λe=>by subst e; simp at b; exact b g⟩) hi
theorem yH(p):(bL p).size=p.length:=by simp [bL,ByteArray.size]
theorem QZ(p q):bL p++bL q=bL (p++q):=by
 apply ByteArray.ext
 simp [bL,si]
theorem yI{p:Γ}(a:o.op = .call { callee:=.builtin .len,args:=#[x],argTypes:=#[t] })(c:bA E x=some (vS p))(b:P.underlying t=some .string):eD P w0 F cs E o (C (p.length:Int)):=λw _=>by
 unfold execOp
 simp only [a,resolve,invoke,builtin,P5,T9,J3,Z1,X4,Y8,cU c,Builtin.len_]
 simp [X3 b,yH,goInt]
theorem Jm{p:Γ}(a:o.op = .binOp .add ty x y u)(b:bA E x=some (vS p))(c:bA E y=some (vS q))(e:p.length+q.length<=9223372036854775807):eD P w0 F cs E o (vS (p++q)):=λw _=>by
 unfold execOp
 simp only [a,cU b,cU c,eqGuard,binOp,Op.stringOp,yH]
 simp [QZ]
 omega
theorem Jn{t1 t2:Υ}{a b:Nat}(ho:o.op = .call { callee:=.builtin .max,args:=#[x,y],argTypes:=#[t1,t2] })(hx:bA E x=some (.int k (a:Int)))(hy:bA E y=some (.int k (b:Int))):eD P w0 F cs E o (.int k ((max a b:Nat):Int)):=λw _=>by
 unfold execOp
 simp only [ho,resolve,invoke,builtin,P5,T9,J3,Z1,X4,Y8,cU hx,cU hy,Builtin.max_,List.foldlM_cons,List.foldlM_nil,Builtin.max2]
 congr 3
 split <;> omega
theorem Ce{t1 t2:Υ}{a b:Nat}(ho:o.op = .call { callee:=.builtin .min,args:=#[x,y],argTypes:=#[t1,t2] })(hx:bA E x=some (.int k (a:Int)))(hy:bA E y=some (.int k (b:Int))):eD P w0 F cs E o (.int k ((min a b:Nat):Int)):=λw _=>by
 unfold execOp
 simp only [ho,resolve,invoke,builtin,P5,T9,J3,Z1,X4,Y8,cU hx,cU hy,Builtin.min_,List.foldlM_cons,List.foldlM_nil,Builtin.min2]
 congr 3
 split <;> omega
def pK(b:Nat)(t:TypeId)(xs:List Value):Ch where
 fp:=[b]
 holds w:=∃ (l:Array Value) (fz:Nat × Nat),w.heap[b]?=some (.cells l t fz) /\ ∀ (j:Nat) (v:Value),xs[j]?=some v -> l[j]?=some v
 ok w w' hb h:=by
  obtain ⟨l,fz,h1,h2⟩:=h
  exact ⟨l,fz,(hb b (by simp)).trans h1,h2⟩
 lt w h c hc:=by
  rw [List.mem_singleton] at hc
  subst hc
  obtain ⟨_,_,h1,_⟩:=h
  exact (Array.getElem?_eq_some_iff.1 h1).1
theorem EJ{b:Nat}(h:(pK b t xs).holds w):aI w (qa b) xs:= λj v e=>by
 obtain ⟨l,f,a,c⟩:=h
 refine ⟨b,0,I,(U9.1 a).1,?_⟩
 rw [K7]
 simp [World.cell?,a,c j v e]
theorem Ra(bs)(f:P.underlying src=some .string)(g:P.underlying dst=some (.slice e))(b:P.underlying e=some (.int .u8))(w):
  ∃ (c:Nat) (l:Array Value) (a:Nat × Nat),(convert src dst (vS bs)).run P w = .ok (ql w.heap.size bs.length c) (w.drew.alloc (.cells l e a))/\∀ (j:Nat) (v:Ω),(B8 bs)[j]?=some v->l[j]?=some v:=by
 have h:=AB9 w src dst e (bL bs) f g b
 grind [yH,bytesRow,bL,B8]
theorem Rb(ho:o.op = .convert src dst x)(hd:o.dst=some d)(hs:P.underlying src=some .string)(ht:P.underlying dst=some (.slice e))(he:P.underlying e=some (.int .u8))(hk:dH n E o=true)(hx:bA E x=some (vS bs))(h:∀ b c,St n w0 F ((d,ql b bs.length c)::E) (cs++[pK b e (B8 bs)]) K):eK P Q n w0 F E cs o K :=
 pH hd hk λw hM=>by
  obtain ⟨c,l,fz,hr,hl⟩:=Ra (P:=P) bs hs ht he w
  have hp:(pK w.heap.size e (B8 bs)).holds (w.drew.alloc (.cells l e fz)):=⟨l,fz,ABa w.drew _,hl⟩
  refine ⟨.slice (some ⟨w.heap.size,0,none⟩) bs.length c,w.drew.alloc (.cells l e fz),cs++[pK w.heap.size e (B8 bs)],?_,hM.push (c:=pK w.heap.size e (B8 bs)) (((Fr.refl _ _).drew).alloc _) hp (by simp [pK]) (by simp [pK]),h _ _⟩
  unfold execOp
  simp only [ho,cU hx,P5,hr]
  rfl
theorem lm{v:Ω}(h:St n w0 F ((d,v)::E) cs (wpList P ops Q rest))(e:o.op = .move x:=by rfl)(f:bA E x=some v:=by rfl)(b:o.guard=none:=by rfl)(a:o.dst=some d:=by rfl)(c:dH n E o=true:=by kernel_rfl):St n w0 F E cs (wpList P ops Q (o::rest)):=lv (jC e f) h b a c
theorem la{v:Ω}(h:St n w0 F ((d,v)::E) cs (wpList P ops Q rest))(e:o.op = .assign x:=by rfl)(f:bA E x=some v:=by rfl)(b:o.guard=none:=by rfl)(a:o.dst=some d:=by rfl)(c:dH n E o=true:=by kernel_rfl):St n w0 F E cs (wpList P ops Q (o::rest)):=lv (Ey e f) h b a c
section
variable {i:Nat}{b:Bool}
theorem Jo{v:Ω}(f:eD P w0 F cs E o v)(h:St n w0 F ((d,v)::E) cs (wpList P ops Q rest))(c:o.guard=some (i,b):=by rfl)(g:jN ops E i=some b:=by rfl)(a:o.dst=some d:=by rfl)(e:dH n E o=true:=by kernel_rfl):St n w0 F E cs (wpList P ops Q (o::rest)):=dP c g (fH v a e f h)
theorem lgc(v)(h:St n w0 F ((d,v)::E) cs (wpList P ops Q rest))(c:o.guard=some (i,b):=by rfl)(f:jN ops E i=some b:=by rfl)(a:o.dst=some d:=by rfl)(e:dH n E o=true:=by kernel_rfl)(g:∀ w,(execOp (evE E) o).run P w = .ok (.value v) w:=by intro _; kernel_rfl):St n w0 F E cs (wpList P ops Q (o::rest)):=dP c f (fH v a e zg h)
theorem uW{v:Ω}(h:St n w0 F ((d,v)::E) cs (wpList P ops Q rest))(f:o.op = .move x:=by rfl)(g:bA E x=some v:=by rfl)(c:o.guard=some (i,b):=by rfl)(j:jN ops E i=some b:=by rfl)(a:o.dst=some d:=by rfl)(e:dH n E o=true:=by kernel_rfl):St n w0 F E cs (wpList P ops Q (o::rest)):=Jo (jC f g) h c j a e
theorem lnT(h:St n w0 F ((d,undef)::E) cs (wpList P ops Q rest))(c:o.guard=some (i,false):=by rfl)(e:o.dst=some d:=by rfl)(a:nE n (some d)=true:=by kernel_rfl)(f:jN ops E i=some true:=by rfl):St n w0 F E cs (wpList P ops Q (o::rest)):=iK (b:=true) c e a f h
theorem lnF(h:St n w0 F ((d,undef)::E) cs (wpList P ops Q rest))(c:o.guard=some (i,true):=by rfl)(e:o.dst=some d:=by rfl)(a:nE n (some d)=true:=by kernel_rfl)(f:jN ops E i=some false:=by rfl):St n w0 F E cs (wpList P ops Q (o::rest)):=iK (b:=false) c e a f h
theorem lR(h:St n w0 F ((d,undef)::E) cs (wpList P ops Q rest))(c:o.guard=some (i,b):=by rfl)(e:o.dst=some d:=by rfl)(a:nE n (some d)=true:=by kernel_rfl)(f:yG ops E i=true:=by rfl):St n w0 F E cs (wpList P ops Q (o::rest)):=QX c e a f h
variable {css:List Ch}{z fuel:Nat}{listed:Array Bool}{j:Nat}
theorem av(i){oi:Oper}(v)(hi:ops[i]?=some oi)(l:eD P w0 F css E oi v)(h:Any P ops Q n w0 F ((d,v)::E) cs css z fuel (listed.setIfInBounds i true))(f:oi.dst=some d:=by rfl)(g:oi.guard=none:=by rfl)(m:sE ops listed z i=true:=by kernel_rfl)(k:dH n E oi=true:=by kernel_rfl)(e:∀ c a w,Q (.panic c) (a.put oi.dst v) w->Q (.panic c) a w:=by exact λ_ _ _ h=>h):Any P ops Q n w0 F E cs css z (fuel+1) listed:=BW v hi f g m k e l h
theorem ac(i){oi:Oper}(v)(h:Any P ops Q n w0 F ((d,v)::E) cs css z fuel (listed.setIfInBounds i true))(hi:ops[i]?=some oi:=by rfl)(f:oi.dst=some d:=by rfl)(g:oi.guard=none:=by rfl)(m:nG ops listed i=true:=by kernel_rfl)(k:dH n E oi=true:=by kernel_rfl)(e:∀ c a w,Q (.panic c) (a.put oi.dst v) w->Q (.panic c) a w:=by exact λ_ _ _ h=>h)(l:∀ w,(execOp (evE E) oi).run P w = .ok (.value v) w:=by intro _; kernel_rfl):Any P ops Q n w0 F E cs css z (fuel+1) listed:=Et v hi f g m k e l h
abbrev B3(a):=Mm.start a []
theorem am(i){oi:Oper}{v:Ω}(h:Any P ops Q n w0 F ((d,v)::E) cs css z fuel (listed.setIfInBounds i true))(hi:ops[i]?=some oi:=by rfl)(l:oi.op = .move x:=by rfl)(p:bA E x=some v:=by rfl)(f:oi.dst=some d:=by rfl)(g:oi.guard=none:=by rfl)(m:nG ops listed i=true:=by kernel_rfl)(k:dH n E oi=true:=by kernel_rfl)(e:∀ c a w,Q (.panic c) (a.put oi.dst v) w->Q (.panic c) a w:=by exact λ_ _ _ h=>h):Any P ops Q n w0 F E cs css z (fuel+1) listed:=Et v hi f g m k e (λw=>(jC l p:eD P w [] [] E oi v) w (B3 w)) h
theorem aa(i){oi:Oper}{v:Ω}(h:Any P ops Q n w0 F ((d,v)::E) cs css z fuel (listed.setIfInBounds i true))(hi:ops[i]?=some oi:=by rfl)(l:oi.op = .assign x:=by rfl)(p:bA E x=some v:=by rfl)(f:oi.dst=some d:=by rfl)(g:oi.guard=none:=by rfl)(m:nG ops listed i=true:=by kernel_rfl)(k:dH n E oi=true:=by kernel_rfl)(e:∀ c a w,Q (.panic c) (a.put oi.dst v) w->Q (.panic c) a w:=by exact λ_ _ _ h=>h):Any P ops Q n w0 F E cs css z (fuel+1) listed:=Et v hi f g m k e (λw=>(Ey l p:eD P w [] [] E oi v) w (B3 w)) h
theorem Jp(i){oi:Oper}(v)(hi:ops[i]?=some oi)(l:eD P w0 F css E oi v)(h:Any P ops Q n w0 F ((d,v)::E) cs css z fuel (listed.setIfInBounds i true))(f:oi.dst=some d:=by rfl)(g:oi.guard=some (j,b):=by rfl)(p:jN ops E j=some b:=by rfl)(m:sE ops listed z i=true:=by kernel_rfl)(k:dH n E oi=true:=by kernel_rfl)(e:∀ c a w,Q (.panic c) (a.put oi.dst v) w->Q (.panic c) a w:=by exact λ_ _ _ h=>h):Any P ops Q n w0 F E cs css z (fuel+1) listed:=gM v hi f g p m k e l h
theorem agc(i){oi:Oper}(v)(h:Any P ops Q n w0 F ((d,v)::E) cs css z fuel (listed.setIfInBounds i true))(hi:ops[i]?=some oi:=by rfl)(f:oi.dst=some d:=by rfl)(g:oi.guard=some (j,b):=by rfl)(p:jN ops E j=some b:=by rfl)(m:nG ops listed i=true:=by kernel_rfl)(k:dH n E oi=true:=by kernel_rfl)(e:∀ c a w,Q (.panic c) (a.put oi.dst v) w->Q (.panic c) a w:=by exact λ_ _ _ h=>h)(l:∀ w,(execOp (evE E) oi).run P w = .ok (.value v) w:=by intro _; kernel_rfl):Any P ops Q n w0 F E cs css z (fuel+1) listed:=Jc v hi f g p m k e l h
theorem fQ(i){oi:Oper}{v:Ω}(h:Any P ops Q n w0 F ((d,v)::E) cs css z fuel (listed.setIfInBounds i true))(hi:ops[i]?=some oi:=by rfl)(l:oi.op = .move x:=by rfl)(p:bA E x=some v:=by rfl)(f:oi.dst=some d:=by rfl)(g:oi.guard=some (j,b):=by rfl)(q:jN ops E j=some b:=by rfl)(m:nG ops listed i=true:=by kernel_rfl)(k:dH n E oi=true:=by kernel_rfl)(e:∀ c a w,Q (.panic c) (a.put oi.dst v) w->Q (.panic c) a w:=by exact λ_ _ _ h=>h):Any P ops Q n w0 F E cs css z (fuel+1) listed:=Jc v hi f g q m k e (λw=>(jC l p:eD P w [] [] E oi v) w (B3 w)) h
theorem eQ(i){oi:Oper}(h:Any P ops Q n w0 F ((d,undef)::E) cs css z fuel (listed.setIfInBounds i true))(hi:ops[i]?=some oi:=by rfl)(g:oi.dst=some d:=by rfl)(k:oi.guard=some (j,false):=by rfl)(m:jN ops E j=some true:=by rfl)(l:nG ops listed i=true:=by kernel_rfl)(e:nE n (some d)=true:=by kernel_rfl)(f:∀ c a w,Q (.panic c) (a.put oi.dst undef) w->Q (.panic c) a w:=by exact λ_ _ _ h=>h):Any P ops Q n w0 F E cs css z (fuel+1) listed:=Jd (b:=true) hi g k m l e f h
theorem bR(i){oi:Oper}(h:Any P ops Q n w0 F ((d,undef)::E) cs css z fuel (listed.setIfInBounds i true))(hi:ops[i]?=some oi:=by rfl)(g:oi.dst=some d:=by rfl)(k:oi.guard=some (j,true):=by rfl)(m:jN ops E j=some false:=by rfl)(l:nG ops listed i=true:=by kernel_rfl)(e:nE n (some d)=true:=by kernel_rfl)(f:∀ c a w,Q (.panic c) (a.put oi.dst undef) w->Q (.panic c) a w:=by exact λ_ _ _ h=>h):Any P ops Q n w0 F E cs css z (fuel+1) listed:=Jd (b:=false) hi g k m l e f h
theorem dB(i){oi:Oper}(h:Any P ops Q n w0 F ((d,undef)::E) cs css z fuel (listed.setIfInBounds i true))(hi:ops[i]?=some oi:=by rfl)(g:oi.dst=some d:=by rfl)(k:oi.guard=some (j,b):=by rfl)(m:yG ops E j=true:=by rfl)(l:nG ops listed i=true:=by kernel_rfl)(e:nE n (some d)=true:=by kernel_rfl)(f:∀ c a w,Q (.panic c) (a.put oi.dst undef) w->Q (.panic c) a w:=by exact λ_ _ _ h=>h):Any P ops Q n w0 F E cs css z (fuel+1) listed:=QY hi g k m l e f h
theorem a1(i){oi:Oper}(h:eK P Q n w0 F E cs oi (nT P ops Q w0 F css z fuel listed i))(e:Region.ready .any ops listed=[i]:=by kernel_rfl)(c:ops[i]?=some oi:=by rfl)(a:oi.guard=none:=by rfl):Any P ops Q n w0 F E cs css z (fuel+1) listed:=dW e c a h
theorem a1g(i){oi:Oper}(h:eK P Q n w0 F E cs oi (nT P ops Q w0 F css z fuel listed i))(e:Region.ready .any ops listed=[i]:=by kernel_rfl)(c:ops[i]?=some oi:=by rfl)(a:oi.guard=some (j,b):=by rfl)(f:jN ops E j=some b:=by rfl):Any P ops Q n w0 F E cs css z (fuel+1) listed:=Ew e c a f h
end
theorem Rc{b:List Ch}{z fuel:Nat}{a:Array Bool}{i j k:Nat}{ok:Oper}{c:Oper}(m:Region.ready .any ops a=[i,j,k])(hi:ops[i]?=some oi)(f:oi.guard=none)(q:ops[j]?=some c)(g:c.guard=none)(r:ops[k]?=some ok)(l:ok.guard=none)(h:eK P Q n w0 F E cs oi (nT P ops Q w0 F b z fuel a i))(p:eK P Q n w0 F E cs c (nT P ops Q w0 F b z fuel a j))(e:eK P Q n w0 F E cs ok (nT P ops Q w0 F b z fuel a k)):Any P ops Q n w0 F E cs b z (fuel+1) a :=
 Eu m I zg
theorem St.to(cs')(a:cs=cs')(h:St n w0 F E cs' X):St n w0 F E cs X:=by grind
theorem St.drop{cs':List Ch}(e:cs'.Sublist cs)(h:St n w0 F E cs' X):St n w0 F E cs X:=λa w c b=>h a w c (b.sub e)
theorem nH{sz m c:Nat}(h:(bD e sz A m c xs).holds w):m<=c:=by
 have i:w.ownsRow 0 e sz _ m xs:=h
 rcases i.2 with ⟨a,j⟩ | ⟨g,cap,b,a,_,_,f,_⟩
 .omega
 .simp only [R6] at a
  omega
theorem Any.fact{c:List Ch}{z fuel:Nat}{b:Array Bool}{p:Prop}(j:∀ w,Mm w0 F c w->p)(h:p->Any P ops Q n w0 F E cs c z fuel b):Any P ops Q n w0 F E cs c z fuel b:=λa w g e f i=>h zg a w g e f i
theorem qY{f:α->Value}{l:List α}(k)(h:aI w A (l.map f)):aI w A ((l.take k).map f):=λj v a=>by
 rw [o5] at a
 have b:=(C4.1 a).1
 rw [I8] at b
 rw [Y5 U] at a
 exact h j v a
theorem tV{f:α->Value}{l:List α}{c:Nat}(k)(h:aI w A (l.map f))(p:l.length<=c):aI w (if c=k then A else A.map (·.add (k*1))) ((l.drop k).map f):=λj v e=>by
 rw [List.map_drop,W8] at e
 have g:=(C4.1 e).1
 rw [K0] at g
 obtain ⟨b,o,i,m,a⟩:=h _ _ e
 rw [P4 U,i]
 grind [kB]
theorem Jq{f:α->Value}{l:List α}{c:Nat}(k m)(h:aI w A (l.map f))(a:l.length<=c):aI w (if c=k then A else A.map (·.add (k*1))) (((l.take m).drop k).map f):=tV k (qY m h) zg
theorem Mm.tJ(h:Mm w0 F cs w)(i){b:Nat}(hi:cs[i]?=some (aD b e []))(sz):Mm w0 F (cs.set i (bD e sz (some ⟨b,0,none⟩) 0 0 [])) w:=by
 have:=h.BH i hi sz 0 0 si (J7 _) (G6 _)
 grind
theorem mJ{l:List Γ}:∀ u∈SS l,u.oneCell'=true:=by
 intro u a
 obtain ⟨p,_,rfl⟩:=Y9.1 a
 rfl
theorem EK{u:Ω}{caps:Array Value}{t:Array TypeId}(g:o.op = .call { callee:=.value x,args:=#[y],argTypes:=t })(i:bA E x=some (.func (.func f) #[] caps))(j:bA E y=some u)(a:∀ args w,(callFunc f args).run P w = .ok (.enter f args) w)(h:∀ w,Mm w0 F cs w->Calls P f (#[u]++caps) w λe k=>∃ v news,e = .returned v/\aN [] w news k/\St n w0 F ((d,v)::E) (cs++news) K)(b:o.dst=some d:=by rfl)(c:dH n E o=true:=by kernel_rfl):eK P Q n w0 F E cs o K:=by
 refine iR h b c λw=>?_
 unfold execOp
 simp only [g,resolve,cU i,Deferred.ofValue,invoke,Z1,X4,Y8,cU j]
 simpa using a (#[u]++caps) w
theorem wM{c: Code}(g : P.funcs[f]? = some fn)(a : (fn.name == "runtime.NumGoroutine") = false)(e : fn.body = some c): ∀ args w, (callFunc f args).run P w = .ok (.enter f args) w:=by
 intro args w
 have b : fn.name ≠ "runtime.NumGoroutine" := by grind
 simp [callFunc,g,b,e,mark]
theorem Re{a k:Nat}(f:o.op = .binOp .shr ty x (.const (.int ks (k:Int))) u)(g:bA E x=some (.int kd (a:Int)))(c:min k kd.bits=k):eD P w0 F cs E o (.int kd ((a / 2 ^ k:Nat):Int)):=λw _=>by
 unfold execOp
 have e:(a:Int).fdiv (2 ^ k)=((a / 2 ^ k:Nat)):=by
  grind
 have b:((k:Int).toNat)=k:=k6 k
 simp only [f,cU g,cU (show bA E (.const (.int ks (k:Int)))=some (.int ks (k:Int)) from I),P5,pY,J3,binOp,Op.shift]
 rw [P4 U,b,c]
 simp only [T9,J3,e]
theorem Jr{a:Nat}(c:o.op = .binOp .shr ty x (.const (.int ks 1)) u)(e:bA E x=some (.int kd (a:Int)))(b:min 1 kd.bits=1):eD P w0 F cs E o (.int kd ((a / 2:Nat):Int)):=Re (k:=1) c e b
theorem Mm.rT(hf:Fr [] w w'):aN [] w [] w':=(B3 w).eW hf
theorem gD:lN Tryz.prog 22 9 qe 1 16:=⟨si,J,I,U,U⟩
end
end
section
abbrev vU(n:Nat):Value:=.int .u64 ((n:Nat):Int)
section
variable {P:Program}{Q:Exit -> Act -> World -> Prop}{n:Nat}{w0:World}{F:List Nat}{E:eH}{cs css:List Ch}{K:Act -> World -> Prop}{ops:Array Oper}{o oi:Oper}{rest:List Oper}{d j z fuel:Nat}{g:Bool}{listed:Array Bool}{ty t:TypeId}{x y:Operand}{b off:Nat}{l:List Value}{v:Value}
theorem al(k i:Nat)(h:Any P ops Q n w0 F ((d,v)::E) cs css z fuel (listed.setIfInBounds k true))(e:ops[k]?=some oi:=by rfl)(u:oi.op = .load ty x:=by rfl)(D:bA E x=some (.pointer (some ⟨b,off,none⟩)):=by rfl)(A:sF P ty=true:=by kernel_rfl)(q:css[i]?=some (aD b t l):=by rfl)(s:l[off]?=some v:=by rfl)(m:oi.dst=some d:=by rfl)(p:oi.guard=none:=by rfl)(B:sE ops listed z k=true:=by kernel_rfl)(r:dH n E oi=true:=by kernel_rfl)(f:∀ c a w,Q (.panic c) (a.put oi.dst v) w->Q (.panic c) a w:=by exact λ_ _ _ h=>h):Any P ops Q n w0 F E cs css z (fuel+1) listed:=BW v e m p B r f (bW i u D A q s) h
theorem oS1(i)(h:St n w0 F E (cs.set i (aD b t (l.set off v))) K)(p:o.op = .store ty x y:=by rfl)(f:o.dst=none:=by rfl)(m:dH n E o=true:=by kernel_rfl)(q:bA E x=some (.pointer (some ⟨b,off,none⟩)):=by rfl)(r:bA E y=some v:=by rfl)(e:v.oneCell'=true:=by rfl)(c:iL P ty=some 1:=by kernel_rfl)(k:cs[i]?=some (aD b t l):=by rfl)(a:off < l.length:=by simp):eK P Q n w0 F E cs o K:=hZ i p f m q r e c k a h
theorem oSN(i l')(h:St n w0 F E (cs.set i (aD b t l')) K)(q:o.op = .store ty x y:=by rfl)(k:o.dst=none:=by rfl)(p:dH n E o=true:=by kernel_rfl)(s:bA E x=some (.pointer (some ⟨b,off,none⟩)):=by rfl)(w:bA E y=some v:=by rfl)(r:v.cells=l'.toArray:=by rfl)(e:iL P ty=some l'.length:=by kernel_rfl)(m:cs[i]?=some (aD b t l):=by rfl)(a:off+l'.length<=l.length:=by simp)(f:∀ u∈l',u.oneCell'=true:=by simp [Value.oneCell'])(c:l'=l.take off++l'++l.drop (off+l'.length):=by rfl):eK P Q n w0 F E cs o K:=dE i l' (vs:=l') q k p s w r e m a f c h
theorem oNw(k t z)(h:∀ b,St n w0 F ((d,.slice (some ⟨b,0,none⟩) k k)::E) (cs++[aD b t z]) K)(a:o.dst=some d:=by rfl)(c:dH n E o=true:=by kernel_rfl)(e:∀ w,(execOp (evE E) o).run P w = .ok (.value (.slice (some ⟨w.heap.size,0,none⟩) k k)) (w.alloc (.cells z.toArray t)):=by intro _; kernel_rfl):eK P Q n w0 F E cs o K:=Jh (v:=λb=>.slice (some ⟨b,0,none⟩) k k) t z a c e h
theorem oAl(z)(h:∀ b,St n w0 F ((d,(.pointer (some ⟨b,0,none⟩)))::E) (cs++[aD b ty z]) K)(e:o.op = .alloc ty:=by rfl)(a:o.dst=some d:=by rfl)(c:dH n E o=true:=by kernel_rfl)(f:(P.info? ty).map (λi=>i.zero.map Value.cells)=some (some z.toArray):=by kernel_rfl):eK P Q n w0 F E cs o K:=QP z e a c f h
theorem oBx(z)(h:∀ b,St n w0 F ((d,(.pointer (some ⟨b,0,none⟩)))::E) (cs++[aD b ty z]) K)(e:o.op = .box ty x:=by rfl)(a:o.dst=some d:=by rfl)(c:dH n E o=true:=by kernel_rfl)(f:bA E x=some v:=by rfl)(i:v.cells=z.toArray:=by rfl):eK P Q n w0 F E cs o K:=Ez z e a c f i h
theorem bN{ty:Υ}{a b:Int}(i:o.op = .binOp .add ty x y u:=by rfl)(k:bA E x=some (.int .i64 a):=by rfl)(m:bA E y=some (.int .i64 b):=by rfl){c:Int}(h:a+b=c:=by omega)(e:-9223372036854775808<=c:=by omega)(f:c<=9223372036854775807:=by omega):eD P w0 F cs E o (.int .i64 c):=pZ c i k m h e f
theorem Cf{ty:Υ}{a b:Int}(i:o.op = .binOp .sub ty x y u:=by rfl)(k:bA E x=some (.int .i64 a):=by rfl)(m:bA E y=some (.int .i64 b):=by rfl){c:Int}(h:a - b=c:=by omega)(e:-9223372036854775808<=c:=by omega)(f:c<=9223372036854775807:=by omega):eD P w0 F cs E o (.int .i64 c):=jT c i k m h e f
theorem rW{a:Addr}(c:∀ w,Mm w0 F cs w->w.cell? a=some v)(e:o.op = .load ty x:=by rfl)(h:bA E x=some (.pointer (some a)):=by rfl)(f:sF P ty=true:=by kernel_rfl):eD P w0 F cs E o v:=gN e h f c
theorem rA(i:Nat)(a:Ξ)(m:o.op = .load ty x:=by rfl)(q:bA E x=some (.pointer (some ⟨b,off,none⟩)):=by rfl)(p:Ae P ty=true:=by kernel_rfl)(c:iL P ty=some a.length:=by kernel_rfl)(k:cs[i]?=some (aD b t l):=by rfl)(f:∀ j v,a[j]?=some v->l[off+j]?=some v:=by intro j v e; first | (rw [K7]; exact e) | (match j,e with | 0,h=>exact h | 1,h=>exact h)):eD P w0 F cs E o (.agg a.toArray):=gI a m q p c (cW k f)
theorem rR(e){ty:Υ}{x i:Operand}{b off len cap j:Nat}(f:A=some ⟨b,off,none⟩)(m:o.op = .indexAddr ty x i:=by rfl)(p:P.underlying ty=some (.slice e):=by kernel_rfl)(c:iL P e=some 1:=by kernel_rfl)(q:bA E x=some (.slice A len cap):=by rfl)(h:bA E i=some (.int k (j:Int)):=by rfl)(a:j < len:=by omega):eD P w0 F cs E o (.pointer (some ⟨b,off+j,none⟩)):=qF (e:=e) m p c q h f a
theorem sA{ok:ι->Prop}{c:ι->Nat}{a:ι->eH}{C:ι->List Ch}{i:ι}(j:ι)(e:ok j)(f:c j < c i)(k:∀ w,Mm w0 F cs w->Mm w0 F (C j) w)(h:tO E (a j):=by repeat (first | exact trivial | refine ⟨I,?_⟩)):St n w0 F E cs (BS n w0 F ok c a C i):=yC j e f h k
theorem sM{ok:ι->Prop}{a:ι->eH}{C:ι->List Ch}(j:ι)(c:ok j)(f:∀ w,Mm w0 F cs w->Mm w0 F (C j) w)(e:tO E (a j):=by repeat (first | exact trivial | refine ⟨I,?_⟩)):St n w0 F E cs (En n w0 F ok a C):=QK j c e f
theorem sN{a:Ending->World->Prop}{rs:List ResultVar}(vs)(c:∀ w,Mm w0 F cs w->a (.returned (tQ vs)) w)(e:fn.results=rs.toArray:=by rfl)(f:Ad P w0 F E cs rs vs:=by repeat (first | exact trivial | refine ⟨I,?_⟩)):St n w0 F E cs (bodyPost P fn a .ret):=dL vs e f c
theorem sL{c:Code}(ok:ι->Prop)(h:ι->Nat)(a:ι->eH)(C:ι->List Ch)(f:ι)(k:ok f)(p:∀ w,Mm w0 F cs w->Mm w0 F (C f) w)(e:∀ i,ok i->St n w0 F (a i) (C i) (c.wp P (Exit.then (BS n w0 F ok h a C i) Q)))(m:tO E (a f):=by repeat (first | exact trivial | refine ⟨I,?_⟩)):St n w0 F E cs ((Code.loop c).wp P Q):=yB ok h a C f k m p e
end
section
variable {P:Program}{Q:Exit->Act->World->Prop}{n:Nat}{w0:World}{F:List Nat}{E:eH}{cs:List Ch}{K:Act->World->Prop}{ty t ty':TypeId}{x y:Operand}{b d:Nat}{l l':List Value}{pos:String}{aft:Array Edge}{gd:Option (Nat×Bool)}
theorem zr(i:Nat)(f:(bA E x,cs[i]?)=(some (.pointer (some ⟨b,0,none⟩)),some (aD b ty' l)))(e:Ae P ty=true:=by kernel_rfl)(g:iL P ty=some l.length:=by kernel_rfl):eD P w0 F cs E ⟨some d,.load ty x,t,pos,aft,gd⟩ (.agg l.toArray):=by
 injection f with a c
 exact rA i l I a e g c (λj v h=>by rw [K7]; exact h)
theorem zv(i)(o:(bA E x,cs[i]?,bA E y)=(some (.pointer (some ⟨b,0,none⟩)),some (aD b ty' l),some (.agg l'.toArray)))(f:∀ u∈l',u.oneCell'=true)(h:St n w0 F E (cs.set i (aD b ty' l')) K)(j:dH n E ⟨none,.store ty x y,t,pos,aft,gd⟩=true:=by kernel_rfl)(m:(Value.agg l'.toArray).cells=l'.toArray:=by rfl)(p:iL P ty=some l'.length:=by kernel_rfl)(g:0+l'.length<=l.length:=by first | exact T2 I | (simp; done))(k:l'=l.take 0++l'++l.drop (0+l'.length):=by rfl):eK P Q n w0 F E cs ⟨none,.store ty x y,t,pos,aft,gd⟩ K:=by
 injection o with c a; injection a with a e
 exact oSN i l' h I I j c e m p a g f k
theorem zu(i)(j:(bA E x,cs[i]?,bA E y)=(some (.pointer (some ⟨b,0,none⟩)),some (aD b ty' l),some (.agg l'.toArray)))(h:St n w0 F E (cs.set i (aD b ty' l')) K)(e:dH n E ⟨none,.store ty x y,t,pos,aft,gd⟩=true:=by kernel_rfl)(g:(Value.agg l'.toArray).cells=l'.toArray:=by rfl)(k:iL P ty=some l'.length:=by kernel_rfl)(c:0+l'.length<=l.length:=by first | exact T2 I | (simp; done))(a:∀ u∈l',u.oneCell'=true:=by simp [Value.oneCell'])(f:l'=l.take 0++l'++l.drop (0+l'.length):=by rfl):eK P Q n w0 F E cs ⟨none,.store ty x y,t,pos,aft,gd⟩ K:=zv i j a h e g k c f
theorem rz{a:Nat}(i:Nat)(k:(jS E a,cs[i]?)=(some (.pointer (some ⟨b,0,none⟩)),some (aD b ty' l)))(g:Ae P ty=true:=by kernel_rfl)(m:iL P ty=some l.length:=by kernel_rfl):QL P w0 F E cs (.cell a ty) (.agg l.toArray):=by
 injection k with c e
 exact ⟨_,c,λw f=>dU g m (cW e (λj v h=>by rw [K7]; exact h) w f)⟩
theorem qs{v:Ω}{o:Nat}(i)(k:(bA E x,bA E y,cs[i]?)=(some (.pointer (some ⟨b,o,none⟩)),some v,some (aD b ty' l)))(g:o<l.length)(h:St n w0 F E (cs.set i (aD b ty' (l.set o v))) K)(j:dH n E ⟨none,.store ty x y,t,pos,aft,gd⟩=true:=by kernel_rfl)(f:v.oneCell'=true:=by rfl)(m:iL P ty=some 1:=by kernel_rfl):eK P Q n w0 F E cs ⟨none,.store ty x y,t,pos,aft,gd⟩ K:=by
 injection k with c a; injection a with a e
 exact oS1 i h I I j c a f m e g
theorem xd{cs':List Ch}(h:St n w0 F E cs' K)(e:cs=cs':=by first | (dsimp only [aU,List.set,List.cons_append,List.nil_append]; done) | (dsimp only [aU,List.set,List.cons_append,List.nil_append]; rfl)):St n w0 F E cs K:=by subst e; exact h
theorem qi{ops:Array Oper}{Q2:Exit->Act->World->Prop}{u:Operand}{c c':Code}{b:Bool}(hu:bA E u=some (.bool b))(ht:b=true->St n w0 F E cs (c.wp P Q))(hf:b=false->St n w0 F E cs (c'.wp P Q)):St n w0 F E cs (wpList P ops (Exit.then ((Code.cond u c c').wp P Q) Q2) []):=aO (aJ (aY hu ht hf))
theorem qj{ops:Array Oper}{Q2:Exit->Act->World->Prop}{u:Operand}{c c' z:Code}{b:Bool}(hu:bA E u=some (.bool b))(ht:b=true->St n w0 F E cs (c.wp P (Exit.then (z.wp P Q) Q)))(hf:b=false->St n w0 F E cs (c'.wp P (Exit.then (z.wp P Q) Q))):St n w0 F E cs (wpList P ops (Exit.then ((Code.seq (Code.cond u c c') z).wp P Q) Q2) []):=aO (aJ (aT (aY hu ht hf)))
end
abbrev qt:List Value:=[nS,bF,nS,C 0,C 0,nS,nS,nS,nS,nS,C 0,C 0,bF,bF]
section
variable {P:Program}{Q:Exit->Act->World->Prop}{n:Nat}{w0:World}{F:List Nat}{E:eH}{cs:List Ch}{p:Prop}[Decidable p]{ops:Array Oper}{Q2:Exit->Act->World->Prop}{u:Operand}{c c' z:Code}
theorem η{a:Sort _}{p:a->Prop}:∀ x,p x->p x:=λ_ h=>h
theorem θ{a:Sort _}{p:a->β->γ->Prop}:∀ x y z,p x y z->p x y z:=λ_ _ _ h=>h
theorem κ{cs':List Ch}(a)(d:Af a=true)(b:pk cs a=cs'):∀ w,Mm w0 F cs w->Mm w0 F cs' w:=λ_ h=>h.pick a d b
theorem ζ(d:bA E u=some (.bool (decide p)))(b:p->St n w0 F E cs (c.wp P Q))(a:¬p->St n w0 F E cs (c'.wp P Q)):St n w0 F E cs (wpList P ops (Exit.then ((Code.cond u c c').wp P Q) Q2) []):=qi d (λh=>b (D4 h)) λh=>a (C7 h)
theorem χ(d:bA E u=some (.bool (decide p)))(b:p->St n w0 F E cs (c.wp P (Exit.then (z.wp P Q) Q)))(a:¬p->St n w0 F E cs (c'.wp P (Exit.then (z.wp P Q) Q))):St n w0 F E cs (wpList P ops (Exit.then ((Code.seq (Code.cond u c c') z).wp P Q) Q2) []):=qj d (λh=>b (D4 h)) λh=>a (C7 h)
end
section
variable {P:Program}{f:FuncId}{fn:Func}{k:Code}{w:World}{R:Ending -> World -> Prop}{F:List Nat}{cs:List Ch}{a b c d e g:Value}
theorem sE0(l:P.funcs[f]?=some fn)(m)(i:Mm w F cs w)(h:St m w F [] cs (k.wp P (bodyPost P fn R)))(j:fn.body=some k:=by rfl)(n:([]:Ξ).length+(fn.ntmps - ([]:Ξ).length)=m:=by rfl):Calls P f #[] w R:=wG (args:=[]) F l j m n [] trivial cs i h
theorem sE1(l:P.funcs[f]?=some fn)(m)(i:Mm w F cs w)(h:St m w F [(0,a)] cs (k.wp P (bodyPost P fn R)))(j:fn.body=some k:=by rfl)(n:[a].length+(fn.ntmps - [a].length)=m:=by rfl):Calls P f #[a] w R:=wG (args:=[a]) F l j m n [(0,a)] ⟨I,trivial⟩ cs i h
theorem Js(l:P.funcs[f]?=some fn)(m)(i:Mm w F cs w)(h:St m w F [(0,a),(1,b)] cs (k.wp P (bodyPost P fn R)))(j:fn.body=some k:=by rfl)(n:[a,b].length+(fn.ntmps - [a,b].length)=m:=by rfl):Calls P f #[a,b] w R:=wG (args:=[a,b]) F l j m n [(0,a),(1,b)] ⟨I,I,trivial⟩ cs i h
theorem sE3(l:P.funcs[f]?=some fn)(m)(i:Mm w F cs w)(h:St m w F [(0,a),(1,b),(2,c)] cs (k.wp P (bodyPost P fn R)))(j:fn.body=some k:=by rfl)(n:[a,b,c].length+(fn.ntmps - [a,b,c].length)=m:=by rfl):Calls P f #[a,b,c] w R:=wG (args:=[a,b,c]) F l j m n [(0,a),(1,b),(2,c)] ⟨I,I,I,trivial⟩ cs i h
theorem sE4(l:P.funcs[f]?=some fn)(m)(i:Mm w F cs w)(h:St m w F [(0,a),(1,b),(2,c),(3,d)] cs (k.wp P (bodyPost P fn R)))(j:fn.body=some k:=by rfl)(n:[a,b,c,d].length+(fn.ntmps - [a,b,c,d].length)=m:=by rfl):Calls P f #[a,b,c,d] w R:=wG (args:=[a,b,c,d]) F l j m n [(0,a),(1,b),(2,c),(3,d)] ⟨I,I,I,I,trivial⟩ cs i h
end
end
section
def Cg(n:Nat)(ops:Array Oper)(E:eH)(o:Oper):Option (Nat × Value) :=
 match o.guard,o.dst with
 | none,some d=>bif Nat.blt d n then
   (match o.op with
   | .move x=>(match bA E x with | some v=>some (d,v) | none=>none)
   | .assign x=>(match bA E x with | some v=>some (d,v) | none=>none)
   | .extract x i=>(match bA E x with | some (.tuple a)=>(match a.toList[i]? with | some v=>some (d,v) | none=>none) | _=>none)
   | _=>none) else none
 | some (i,b),some d=>bif Nat.blt d n then (match jN ops E i with
   | some b'=>bif Bool.xor b b' then some (d,undef) else
     (match o.op with
     | .move x=>(match bA E x with | some v=>some (d,v) | none=>none)
     | .assign x=>(match bA E x with | some v=>some (d,v) | none=>none)
     | .extract x i=>(match bA E x with | some (.tuple a)=>(match a.toList[i]? with | some v=>some (d,v) | none=>none) | _=>none)
     | _=>none)
   | none=>none) else none
 | _,none=>none
def EL(n:Nat)(ops:Array Oper):List Oper -> eH -> Option (eH × List Oper)
 | [],E=>some (E,[])
 | o::rest,E=>match Cg n ops E o with
   | some (d,v)=>EL n ops rest ((d,v)::E)
   | none=>some (E,o::rest)
section
variable {P:Program}{Q:Exit -> Act -> World -> Prop}{n:Nat}{w0:World}{F:List Nat}{E:eH}{cs css:List Ch}{K:Act -> World -> Prop}{ops:Array Oper}{o oi:Oper}{rest:List Oper}{d j z fuel:Nat}{g:Bool}{listed:Array Bool}{ty t:TypeId}{x y:Operand}{b off:Nat}{l:List Value}{v:Value}{op:Op}{pos:String}{aft:Array Edge}
theorem exX{x:Operand}{i:Nat}{a:Array Value}{v:Ω}(c:o.op = .extract x i)(f:bA E x=some (.tuple a))(e:a.toList[i]?=some v):eD P w0 F cs E o v:=λw _=>by
 have h:a[i]?=some v:=by rw [<- e]; simp
 unfold execOp; simp only [c,cU f,Instr.extract,h]; rfl
theorem Jt{op:Op}{v:Ω}(c:(match op with
   | .move x=>(match bA E x with | some v=>some (d,v) | none=>none)
   | .assign x=>(match bA E x with | some v=>some (d,v) | none=>none)
   | .extract x i=>(match bA E x with | some (.tuple a)=>(match a.toList[i]? with | some v=>some (d,v) | none=>none) | _=>none)
   | _=>none)=some (j,v))(h:o.op=op):d=j/\(∀ x∈o.op.operands,(bA E x).isSome=true)/\yA o=true/\∀ w,(execOp (evE E) o).run P w = .ok (.value v) w:=by
 subst h
 split at c
 .rename_i x e
  cases f:bA E x with
  | none=>grind
  | some u =>
    rw [f] at c; cases c
    exact ⟨I,by grind [Op.operands],by simp [yA,e],λw=>(jC e f) w (B3 w)⟩
 .rename_i x e
  cases f:bA E x with
  | none=>grind
  | some u =>
    rw [f] at c; cases c
    exact ⟨I,by grind [Op.operands],by simp [yA,e],λw=>(Ey e f) w (B3 w)⟩
 .rename_i x i e
  split at c
  .rename_i a f
   split at c
   .rename_i u k
    cases c
    exact ⟨I,by grind [Op.operands],by simp [yA,e],λw=>(exX e f k) w (B3 w)⟩
   grind
  grind
 grind
theorem Rg(h:Cg n ops E o=some (j,v))(k:St n w0 F ((j,v)::E) cs (wpList P ops Q rest)):St n w0 F E cs (wpList P ops Q (o::rest)):=by
 unfold Cg at h
 split at h
 .rename_i d r f
  cases a:Nat.blt d n with
  | false=>rw [a] at h; cases h
  | true =>
    rw [a] at h
    obtain ⟨rfl,u,p,q⟩:=Jt (P:=P) h I
    refine li r (fH v f ?_ (λw _=>q w) k)
    simp only [dH,p,f,nE,a,Bool.true_and]
    grind
 .rename_i i b d r f
  cases a:Nat.blt d n with
  | false=>grind
  | true =>
    rw [a] at h
    simp only at h
    split at h
    .rename_i m s
     cases c:Bool.xor b m with
     | true =>
       rw [c] at h; cases h
       exact iK (by cases b <;> cases m <;> first | grind | grind) f a s k
     | false =>
       rw [c] at h
       obtain ⟨rfl,u,p,q⟩:=Jt (P:=P) h I
       have e:b=m:=by cases b <;> cases m <;> first | rfl | cases c
       refine dP r (e▸s) (fH v f ?_ (λw _=>q w) k)
       simp only [dH,p,f,nE,a,Bool.true_and]
       grind
    grind
 grind
theorem G{a:List Oper}{E':eH}(h:EL n ops rest E=some (E',a))(k:St n w0 F E' cs (wpList P ops Q a)):St n w0 F E cs (wpList P ops Q rest):=by
 induction rest generalizing E with
 | nil=>cases h; omega
 | cons o rest c =>
   grind [EL,Rg]
end
section
variable {P:Program}{Q Q' Q2:Exit -> Act -> World -> Prop}{n:Nat}{w0:World}{F:List Nat}{E:eH}{cs css:List Ch}{K K' K2:Act -> World -> Prop}{ops:Array Oper}{oi:Oper}{rest l:List Oper}{c a b:Code}{d j z fuel id id':Nat}{g:Bool}{listed:Array Bool}{ty t:TypeId}{x y u:Operand}{bk off:Nat}{lv':List Value}{v:Value}{op:Op}{pos:String}{aft:Array Edge}{gd:Option (Nat × Bool)}{f:FuncId}{args:Array Value}
theorem M(v)(h:St n w0 F ((d,v)::E) cs (wpList P ops Q rest))(e:dH n E ⟨some d,op,t,pos,aft,none⟩=true:=by kernel_rfl)(i:∀ w,(execOp (evE E) ⟨some d,op,t,pos,aft,none⟩).run P w = .ok (.value v) w:=by intro _; kernel_rfl):St n w0 F E cs (wpList P ops Q (⟨some d,op,t,pos,aft,none⟩::rest)):=lc v h I I e i
theorem lk:type_of%@M:=@M
theorem lT(h:St n w0 F ((d,.bool true)::E) cs (wpList P ops Q rest))(e:dH n E ⟨some d,op,t,pos,aft,none⟩=true:=by kernel_rfl)(i:∀ w,(execOp (evE E) ⟨some d,op,t,pos,aft,none⟩).run P w = .ok (.value (.bool true)) w:=by intro _; kernel_rfl):St n w0 F E cs (wpList P ops Q (⟨some d,op,t,pos,aft,none⟩::rest)):=lc _ h I I e i
theorem lF(h:St n w0 F ((d,.bool false)::E) cs (wpList P ops Q rest))(e:dH n E ⟨some d,op,t,pos,aft,none⟩=true:=by kernel_rfl)(i:∀ w,(execOp (evE E) ⟨some d,op,t,pos,aft,none⟩).run P w = .ok (.value (.bool false)) w:=by intro _; kernel_rfl):St n w0 F E cs (wpList P ops Q (⟨some d,op,t,pos,aft,none⟩::rest)):=lc _ h I I e i
theorem lg(v)(h:St n w0 F ((d,v)::E) cs (wpList P ops Q rest))(k:jN ops E j=some g:=by rfl)(e:dH n E ⟨some d,op,t,pos,aft,some (j,g)⟩=true:=by kernel_rfl)(i:∀ w,(execOp (evE E) ⟨some d,op,t,pos,aft,some (j,g)⟩).run P w = .ok (.value v) w:=by intro _; kernel_rfl):St n w0 F E cs (wpList P ops Q (⟨some d,op,t,pos,aft,some (j,g)⟩::rest)):=lgc v h I k I e i
theorem lw(v)(i:eD P w0 F cs E ⟨some d,op,t,pos,aft,none⟩ v)(h:St n w0 F ((d,v)::E) cs (wpList P ops Q rest))(e:dH n E ⟨some d,op,t,pos,aft,none⟩=true:=by kernel_rfl):St n w0 F E cs (wpList P ops Q (⟨some d,op,t,pos,aft,none⟩::rest)):=lv i h I I e
theorem lW(i:eD P w0 F cs E ⟨some d,op,t,pos,aft,none⟩ v)(h:St n w0 F ((d,v)::E) cs (wpList P ops Q rest))(e:dH n E ⟨some d,op,t,pos,aft,none⟩=true:=by kernel_rfl):St n w0 F E cs (wpList P ops Q (⟨some d,op,t,pos,aft,none⟩::rest)):=lv i h I I e
theorem lu(v)(i:eD P w0 F cs E ⟨some d,op,t,pos,aft,some (j,g)⟩ v)(h:St n w0 F ((d,v)::E) cs (wpList P ops Q rest))(k:jN ops E j=some g:=by rfl)(e:dH n E ⟨some d,op,t,pos,aft,some (j,g)⟩=true:=by kernel_rfl):St n w0 F E cs (wpList P ops Q (⟨some d,op,t,pos,aft,some (j,g)⟩::rest)):=Jo i h I k I e
theorem lL(i:Nat)(q:(bA E x,cs[i]?,lv'[off]?)=(some (.pointer (some ⟨bk,off,none⟩)),some (aD bk ty' lv'),some v))(h:St n w0 F ((d,v)::E) cs (wpList P ops Q rest))(p:sF P ty=true:=by kernel_rfl)(o:dH n E ⟨some d,.load ty x,t,pos,aft,none⟩=true:=by kernel_rfl):St n w0 F E cs (wpList P ops Q (⟨some d,.load ty x,t,pos,aft,none⟩::rest)):=by
 injection q with k e; injection e with e m
 exact lv (bW i I k p e m) h I I o
theorem pA(z)(h:∀ b,St n w0 F ((d,.pointer (some ⟨b,0,none⟩))::E) (cs++[aD b ty z]) K)(e:dH n E ⟨some d,.alloc ty,t,pos,aft,gd⟩=true:=by kernel_rfl)(k:(P.info? ty).map (λi=>i.zero.map Value.cells)=some (some z.toArray):=by kernel_rfl):eK P Q n w0 F E cs ⟨some d,.alloc ty,t,pos,aft,gd⟩ K:=oAl z h I I e k
theorem pB(z)(h:∀ b,St n w0 F ((d,.pointer (some ⟨b,0,none⟩))::E) (cs++[aD b ty z]) K)(i:bA E x=some v:=by rfl)(e:dH n E ⟨some d,.box ty x,t,pos,aft,gd⟩=true:=by kernel_rfl)(k:v.cells=z.toArray:=by rfl):eK P Q n w0 F E cs ⟨some d,.box ty x,t,pos,aft,gd⟩ K:=oBx z h I I e i k
theorem pN(k ty z)(h:∀ b,St n w0 F ((d,.slice (some ⟨b,0,none⟩) k k)::E) (cs++[aD b ty z]) K)(e:dH n E ⟨some d,op,t,pos,aft,gd⟩=true:=by kernel_rfl)(i:∀ w,(execOp (evE E) ⟨some d,op,t,pos,aft,gd⟩).run P w = .ok (.value (.slice (some ⟨w.heap.size,0,none⟩) k k)) (w.alloc (.cells z.toArray ty)):=by intro _; kernel_rfl):eK P Q n w0 F E cs ⟨some d,op,t,pos,aft,gd⟩ K:=oNw k ty z h I e i
theorem pS(i)(s:(bA E x,bA E y,cs[i]?)=(some (.pointer (some ⟨bk,off,none⟩)),some v,some (aD bk ty' lv')))(h:St n w0 F E (cs.set i (aD bk ty' (lv'.set off v))) K)(r:dH n E ⟨none,.store ty x y,t,pos,aft,gd⟩=true:=by kernel_rfl)(q:v.oneCell'=true:=by rfl)(m:iL P ty=some 1:=by kernel_rfl)(e:off < lv'.length:=by simp):eK P Q n w0 F E cs ⟨none,.store ty x y,t,pos,aft,gd⟩ K:=by
 injection s with o k; injection k with k p
 exact oS1 i h I I r o k q m p e
theorem pT(i l')(w:(bA E x,cs[i]?)=(some (.pointer (some ⟨bk,off,none⟩)),some (aD bk ty' lv')))(h:St n w0 F E (cs.set i (aD bk ty' l')) K)(r:dH n E ⟨none,.store ty x y,t,pos,aft,gd⟩=true:=by kernel_rfl)(A:bA E y=some v:=by rfl)(s:v.cells=l'.toArray:=by rfl)(m:iL P ty=some l'.length:=by kernel_rfl)(e:off+l'.length<=lv'.length:=by simp)(q:∀ u∈l',u.oneCell'=true:=by simp [Value.oneCell'])(k:l'=lv'.take off++l'++lv'.drop (off+l'.length):=by rfl):eK P Q n w0 F E cs ⟨none,.store ty x y,t,pos,aft,gd⟩ K:=by
 injection w with o p
 exact oSN i l' h I I r o A s m p e q k
theorem aC(i v)(hi:ops[i]?=some ⟨some d,op,t,pos,aft,none⟩)(h:Any P ops Q n w0 F ((d,v)::E) cs css z fuel (listed.setIfInBounds i true))(o:nG ops listed i=true:=by kernel_rfl)(k:dH n E ⟨some d,op,t,pos,aft,none⟩=true:=by kernel_rfl)(e:∀ c a w,Q (.panic c) (a.put (some d) v) w->Q (.panic c) a w:=by exact λ_ _ _ h=>h)(m:∀ w,(execOp (evE E) ⟨some d,op,t,pos,aft,none⟩).run P w = .ok (.value v) w:=by intro _; kernel_rfl):Any P ops Q n w0 F E cs css z (fuel+1) listed:=ac i v h hi I I o k e m
theorem aV(i v)(hi:ops[i]?=some ⟨some d,op,t,pos,aft,none⟩)(o:eD P w0 F css E ⟨some d,op,t,pos,aft,none⟩ v)(h:Any P ops Q n w0 F ((d,v)::E) cs css z fuel (listed.setIfInBounds i true))(m:sE ops listed z i=true:=by kernel_rfl)(k:dH n E ⟨some d,op,t,pos,aft,none⟩=true:=by kernel_rfl)(e:∀ c a w,Q (.panic c) (a.put (some d) v) w->Q (.panic c) a w:=by exact λ_ _ _ h=>h):Any P ops Q n w0 F E cs css z (fuel+1) listed:=av i v hi o h I I m k e
theorem aG(i v)(hi:ops[i]?=some ⟨some d,op,t,pos,aft,some (j,g)⟩)(h:Any P ops Q n w0 F ((d,v)::E) cs css z fuel (listed.setIfInBounds i true))(p:jN ops E j=some g:=by rfl)(o:nG ops listed i=true:=by kernel_rfl)(k:dH n E ⟨some d,op,t,pos,aft,some (j,g)⟩=true:=by kernel_rfl)(e:∀ c a w,Q (.panic c) (a.put (some d) v) w->Q (.panic c) a w:=by exact λ_ _ _ h=>h)(m:∀ w,(execOp (evE E) ⟨some d,op,t,pos,aft,some (j,g)⟩).run P w = .ok (.value v) w:=by intro _; kernel_rfl):Any P ops Q n w0 F E cs css z (fuel+1) listed:=agc i v h hi I I p o k e m
theorem aW(i v)(hi:ops[i]?=some ⟨some d,op,t,pos,aft,some (j,g)⟩)(o:eD P w0 F css E ⟨some d,op,t,pos,aft,some (j,g)⟩ v)(h:Any P ops Q n w0 F ((d,v)::E) cs css z fuel (listed.setIfInBounds i true))(p:jN ops E j=some g:=by rfl)(m:sE ops listed z i=true:=by kernel_rfl)(k:dH n E ⟨some d,op,t,pos,aft,some (j,g)⟩=true:=by kernel_rfl)(e:∀ c a w,Q (.panic c) (a.put (some d) v) w->Q (.panic c) a w:=by exact λ_ _ _ h=>h):Any P ops Q n w0 F E cs css z (fuel+1) listed:=Jp i v hi o h I I p m k e
theorem aA(i)(hi:ops[i]?=some oi)(h:eK P Q n w0 F E cs oi (nT P ops Q w0 F css z fuel listed i))(k:Region.ready .any ops listed=[i]:=by kernel_rfl)(e:oi.guard=none:=by rfl):Any P ops Q n w0 F E cs css z (fuel+1) listed:=a1 i h k hi e
theorem aB(i)(hi:ops[i]?=some oi)(h:eK P Q n w0 F E cs oi (nT P ops Q w0 F css z fuel listed i))(k:Region.ready .any ops listed=[i]:=by kernel_rfl)(e:oi.guard=some (j,g):=by rfl)(m:jN ops E j=some g:=by rfl):Any P ops Q n w0 F E cs css z (fuel+1) listed:=a1g i h k hi e m
theorem eO{k:Code}{e:Ending->World->Prop}(p:P.funcs[f]?=some fn)(m)(i:Mm w F cs w)(o:fn.body=some k)(h:St m w F [(0,a0)] cs (k.wp P (bodyPost P fn e)))(q:([a0]:Ξ).length+(fn.ntmps - ([a0]:Ξ).length)=m:=by rfl):Calls P f #[a0] w e:=sE1 p m i h o q
theorem bS{k:Code}{e:Ending->World->Prop}{a1:Ω}(p:P.funcs[f]?=some fn)(m)(i:Mm w F cs w)(o:fn.body=some k)(h:St m w F [(0,a0),(1,a1)] cs (k.wp P (bodyPost P fn e)))(q:([a0,a1]:Ξ).length+(fn.ntmps - ([a0,a1]:Ξ).length)=m:=by rfl):Calls P f #[a0,a1] w e:=Js p m i h o q
theorem kN{k:Code}{e:Ending->World->Prop}{a1:Ω}(p:P.funcs[f]?=some fn)(m)(i:Mm w F cs w)(o:fn.body=some k)(h:St m w F [(0,a0),(1,a1),(2,a2)] cs (k.wp P (bodyPost P fn e)))(q:([a0,a1,a2]:Ξ).length+(fn.ntmps - ([a0,a1,a2]:Ξ).length)=m:=by rfl):Calls P f #[a0,a1,a2] w e:=sE3 p m i h o q
theorem Ju{k:Code}{e:Ending->World->Prop}{a1:Ω}(p:P.funcs[f]?=some fn)(m)(i:Mm w F cs w)(o:fn.body=some k)(h:St m w F [(0,a0),(1,a1),(2,a2),(3,a3)] cs (k.wp P (bodyPost P fn e)))(q:([a0,a1,a2,a3]:Ξ).length+(fn.ntmps - ([a0,a1,a2,a3]:Ξ).length)=m:=by rfl):Calls P f #[a0,a1,a2,a3] w e:=sE4 p m i h o q
theorem Na(h:St n w0 F E cs (K)):St n w0 F E cs (wpList P ops (Exit.then (K) (Q)) []):=h
theorem Nb(h:St n w0 F E cs (wpList P l.toArray (Exit.then (b.wp P Q') (Q')) l)):St n w0 F E cs (wpList P ops (Exit.then ((Code.seq (Code.region id l.toArray false) b).wp P Q') (Q)) []):=aO (aJ (aT (aF h)))
theorem Nc(h:St n w0 F E cs (wpList P l.toArray (Exit.then (b.wp P Q) (Q)) l)):St n w0 F E cs ((Code.seq (Code.region id l.toArray false) b).wp P Q):=aT (aF h)
theorem Nd(h:St n w0 F E cs (Q' .ret)):St n w0 F E cs (wpList P ops (Exit.then (Code.ret.wp P Q') (Q)) []):=aO (aJ (gW h))
theorem Ne(h:St n w0 F E cs (wpList P l.toArray (Exit.then (a.wp P (Exit.then (b.wp P Q') (Q'))) (Exit.then (b.wp P Q') (Q'))) l)):St n w0 F E cs (wpList P ops (Exit.then ((Code.seq (Code.seq (Code.region id l.toArray false) a) b).wp P Q') (Q)) []):=aO (aJ (aT (aT (aF h))))
theorem Nf(h:St n w0 F E cs (a.wp P (Exit.then (b.wp P Q') (Q')))):St n w0 F E cs (wpList P ops (Exit.then ((Code.seq a b).wp P Q') (Q)) []):=aO (aJ (aT h))
theorem Ng(h:St n w0 F E cs (c.wp P (Exit.inBlock id Q'))):St n w0 F E cs (wpList P ops (Exit.then ((Code.block id c).wp P Q') (Q)) []):=aO (aJ (fY h))
theorem Nh(h:St n w0 F E cs (Q' .ret)):St n w0 F E cs (wpList P ops (Exit.then (Code.ret.wp P (Exit.then (K) (Q'))) (Q)) []):=aO (aJ (gW (cJ h)))
theorem Ni(h:St n w0 F E cs (wpList P l.toArray (Exit.then (b.wp P Q') (Q')) l)):St n w0 F E cs (Code.skip.wp P (Exit.then ((Code.seq (Code.region id l.toArray false) b).wp P Q') (Q))):=gL (aJ (aT (aF h)))
theorem Nj(h:St n w0 F E cs (a.wp P (Exit.then (b.wp P Q') (Q')))):St n w0 F E cs ((Code.exit id).wp P (Exit.then (K) (Exit.then (K') (Exit.inBlock id (Exit.then ((Code.seq a b).wp P Q') (Q)))))):=pJ (jB (jB (kL (aJ (aT h)))))
theorem Nk(h:St n w0 F E cs (K)):St n w0 F E cs (wpList P ops (Exit.inBlock id (Exit.then (K) (Q))) []):=h
theorem Nl(h:St n w0 F E cs (a.wp P (Exit.then (b.wp P Q') (Q')))):St n w0 F E cs (Code.skip.wp P (Exit.then ((Code.seq a b).wp P Q') (Q))):=gL (aJ (aT h))
theorem Nm(h:St n w0 F E cs (a.wp P (Exit.then (c.wp P (Exit.inBlock id (Exit.then (b.wp P Q') (Q')))) (Exit.inBlock id (Exit.then (b.wp P Q') (Q')))))):St n w0 F E cs (Code.skip.wp P (Exit.then ((Code.seq (Code.block id (Code.seq a c)) b).wp P Q') (Q))):=gL (aJ (aT (fY (aT h))))
theorem Nn(h:St n w0 F E cs (a.wp P (Exit.then (b.wp P Q') (Q'))))(e:bA E u=some (.bool false):=by rfl):St n w0 F E cs (wpList P ops (Exit.then ((Code.cond u c Code.skip).wp P (Exit.then ((Code.seq a b).wp P Q') (Q2))) (Q)) []):=aO (aJ (oO e (gL (aJ (aT h)))))
theorem No(h:St n w0 F E cs (wpList P l.toArray (Exit.then (a.wp P Q') (Q')) l))(e:bA E u=some (.bool true):=by rfl):St n w0 F E cs (wpList P ops (Exit.then ((Code.cond u (Code.seq (Code.region id l.toArray false) a) b).wp P Q') (Q)) []):=aO (aJ (nR e (aT (aF h))))
theorem Np(h:St n w0 F E cs (a.wp P (Exit.then (b.wp P Q') (Q'))))(e:bA E u=some (.bool false):=by rfl):St n w0 F E cs (wpList P ops (Exit.then ((Code.cond u c (Code.seq a b)).wp P Q') (Q)) []):=aO (aJ (oO e (aT h)))
theorem Nq(h:St n w0 F E cs (Q' .ret)):St n w0 F E cs (wpList P ops (Exit.then (Code.ret.wp P (Exit.then (K) (Exit.inBlock id (Exit.then (K') (Exit.then (K2) (Exit.inBlock id' Q')))))) (Q)) []):=aO (aJ (gW (cJ (eL (cJ (cJ (eL h)))))))
theorem Nr(h:St n w0 F E cs (Q (.exit id))):St n w0 F E cs ((Code.exit id).wp P (Exit.then (K) (Exit.then (K') (Q)))):=pJ (jB (jB h))
theorem Ns(h:St n w0 F E cs (Q .normal)):St n w0 F E cs (wpList P ops (Exit.inBlock id Q) []):=h
theorem Nt(h:St n w0 F E cs (a.wp P Q'))(e:bA E u=some (.bool true):=by rfl):St n w0 F E cs (wpList P ops (Exit.then ((Code.cond u a b).wp P Q') (Q)) []):=aO (aJ (nR e h))
theorem Nu(h:St n w0 F E cs (b.wp P Q'))(e:bA E u=some (.bool false):=by rfl):St n w0 F E cs (wpList P ops (Exit.then ((Code.cond u a b).wp P Q') (Q)) []):=aO (aJ (oO e h))
theorem Nv(h:St n w0 F E cs (wpList P l.toArray (Q') l)):St n w0 F E cs (wpList P ops (Exit.then ((Code.region id l.toArray false).wp P Q') (Q)) []):=aO (aJ (aF h))
theorem Nw(h:St n w0 F E cs (K)):St n w0 F E cs (Code.skip.wp P (Exit.inBlock id (Exit.then (K) (Q)))):=gL (jF (aJ h))
theorem R{o:Oper}(h:eK P Q n w0 F E cs o (wpList P ops Q rest))(e:o.guard=none:=by rfl):St n w0 F E cs (wpList P ops Q (o::rest)):=li e h
theorem Ny(h:St n w0 F E cs (wpList P l.toArray (Exit.then (a.wp P (Exit.then (b.wp P Q) (Q))) (Exit.then (b.wp P Q) (Q))) l)):St n w0 F E cs ((Code.seq (Code.seq (Code.region id l.toArray false) a) b).wp P Q):=aT (aT (aF h))
end
section
variable {P:Program}{Q:Exit -> Act -> World -> Prop}{n:Nat}{w0:World}{F:List Nat}{E:eH}{cs ms:List Ch}{K:Act -> World -> Prop}{d:Nat}{t:TypeId}{op:Op}{pos:String}{aft:Array Edge}{gd:Option (Nat × Bool)}{f:FuncId}{args:Array Value}{A1 A2 A3 A4 A5 A6 A7 A8 A9 A10:Type}
theorem bV{v:Ω}{news:List Ch}(h:∀ w,Mm w0 F cs w->Calls P f args w λe a=>e = .returned (v)/\aN [] w (news) a)(k:St n w0 F ((d,v)::E) (cs++news) K)(g:dH n E ⟨some d,op,t,pos,aft,gd⟩=true:=by kernel_rfl)(i:∀ w,(execOp (evE E) ⟨some d,op,t,pos,aft,gd⟩).run P w = .ok (.enter f args) w:=by intro _; kernel_rfl):eK P Q n w0 F E cs ⟨some d,op,t,pos,aft,gd⟩ K:=by
 refine iR (λw b=>(h w b).mono ?_) I g i
 rintro e a ⟨rfl,c⟩
 exact ⟨_,_,I,c,k⟩
theorem gT{v:A1->Value}{news:A1->List Ch}(h:∀ w,Mm w0 F cs w->Calls P f args w λe b=>∃ a,e = .returned (v a)/\aN [] w (news a) b)(k:∀ a,St n w0 F ((d,v a)::E) (cs++news a) K)(i:dH n E ⟨some d,op,t,pos,aft,gd⟩=true:=by kernel_rfl)(j:∀ w,(execOp (evE E) ⟨some d,op,t,pos,aft,gd⟩).run P w = .ok (.enter f args) w:=by intro _; kernel_rfl):eK P Q n w0 F E cs ⟨some d,op,t,pos,aft,gd⟩ K:=by
 refine iR (λw c=>(h w c).mono ?_) I i j
 rintro e b ⟨a,rfl,g⟩
 exact ⟨_,_,I,g,k a⟩
theorem Ci{v:A1->Value}{news:A1->List Ch}{b:A1->Prop}(h:∀ w,Mm w0 F cs w->Calls P f args w λe c=>∃ a,e = .returned (v a)/\aN [] w (news a) c/\b a)(k:∀ a,b a->St n w0 F ((d,v a)::E) (cs++news a) K)(l:dH n E ⟨some d,op,t,pos,aft,gd⟩=true:=by kernel_rfl)(m:∀ w,(execOp (evE E) ⟨some d,op,t,pos,aft,gd⟩).run P w = .ok (.enter f args) w:=by intro _; kernel_rfl):eK P Q n w0 F E cs ⟨some d,op,t,pos,aft,gd⟩ K:=by
 refine iR (λw i=>(h w i).mono ?_) I l m
 rintro e c ⟨a,rfl,j,g⟩
 exact ⟨_,_,I,j,k a g⟩
theorem dC{v:A1->A2->Value}{news:A1->A2->List Ch}(h:∀ w,Mm w0 F cs w->Calls P f args w λe c=>∃ a,∃ b,e = .returned (v a b)/\aN [] w (news a b) c)(k:∀ a b,St n w0 F ((d,v a b)::E) (cs++news a b) K)(j:dH n E ⟨some d,op,t,pos,aft,gd⟩=true:=by kernel_rfl)(l:∀ w,(execOp (evE E) ⟨some d,op,t,pos,aft,gd⟩).run P w = .ok (.enter f args) w:=by intro _; kernel_rfl):eK P Q n w0 F E cs ⟨some d,op,t,pos,aft,gd⟩ K:=by
 refine iR (λw g=>(h w g).mono ?_) I j l
 rintro e c ⟨a,b,rfl,i⟩
 exact ⟨_,_,I,i,k a b⟩
theorem EM{v:A1->A2->Value}{news:A1->A2->List Ch}{c:A1->A2->Prop}(h:∀ w,Mm w0 F cs w->Calls P f args w λe g=>∃ a,∃ b,e = .returned (v a b)/\aN [] w (news a b) g/\c a b)(k:∀ a b,c a b->St n w0 F ((d,v a b)::E) (cs++news a b) K)(m:dH n E ⟨some d,op,t,pos,aft,gd⟩=true:=by kernel_rfl)(o:∀ w,(execOp (evE E) ⟨some d,op,t,pos,aft,gd⟩).run P w = .ok (.enter f args) w:=by intro _; kernel_rfl):eK P Q n w0 F E cs ⟨some d,op,t,pos,aft,gd⟩ K:=by
 refine iR (λw j=>(h w j).mono ?_) I m o
 rintro e g ⟨a,b,rfl,l,i⟩
 exact ⟨_,_,I,l,k a b i⟩
theorem Cj{v:A1->A2->A3->Value}{news:A1->A2->A3->List Ch}{g:A1->A2->A3->Prop}(h:∀ w,Mm w0 F cs w->Calls P f args w λe i=>∃ a,∃ b,∃ c,e = .returned (v a b c)/\aN [] w (news a b c) i/\g a b c)(k:∀ a b c,g a b c->St n w0 F ((d,v a b c)::E) (cs++news a b c) K)(o:dH n E ⟨some d,op,t,pos,aft,gd⟩=true:=by kernel_rfl)(p:∀ w,(execOp (evE E) ⟨some d,op,t,pos,aft,gd⟩).run P w = .ok (.enter f args) w:=by intro _; kernel_rfl):eK P Q n w0 F E cs ⟨some d,op,t,pos,aft,gd⟩ K:=by
 refine iR (λw l=>(h w l).mono ?_) I o p
 rintro e i ⟨a,b,c,rfl,m,j⟩
 exact ⟨_,_,I,m,k a b c j⟩
theorem uX{v:A1->A2->A3->Value}{news:A1->A2->A3->List Ch}{g:A1->A2->A3->Prop}{i:A1->A2->A3->Prop}(h:∀ w,Mm w0 F cs w->Calls P f args w λe j=>∃ a,∃ b,∃ c,e = .returned (v a b c)/\aN [] w (news a b c) j/\g a b c/\i a b c)(k:∀ a b c,g a b c->i a b c->St n w0 F ((d,v a b c)::E) (cs++news a b c) K)(q:dH n E ⟨some d,op,t,pos,aft,gd⟩=true:=by kernel_rfl)(r:∀ w,(execOp (evE E) ⟨some d,op,t,pos,aft,gd⟩).run P w = .ok (.enter f args) w:=by intro _; kernel_rfl):eK P Q n w0 F E cs ⟨some d,op,t,pos,aft,gd⟩ K:=by
 refine iR (λw o=>(h w o).mono ?_) I q r
 rintro e j ⟨a,b,c,rfl,p,l,m⟩
 exact ⟨_,_,I,p,k a b c l m⟩
theorem qZ{v:A1->A2->A3->A4->Value}{news:A1->A2->A3->A4->List Ch}(h:∀ w,Mm w0 F cs w->Calls P f args w λe i=>∃ a,∃ b,∃ c,∃ g,e = .returned (v a b c g)/\aN [] w (news a b c g) i)(k:∀ a b c g,St n w0 F ((d,v a b c g)::E) (cs++news a b c g) K)(m:dH n E ⟨some d,op,t,pos,aft,gd⟩=true:=by kernel_rfl)(o:∀ w,(execOp (evE E) ⟨some d,op,t,pos,aft,gd⟩).run P w = .ok (.enter f args) w:=by intro _; kernel_rfl):eK P Q n w0 F E cs ⟨some d,op,t,pos,aft,gd⟩ K:=by
 refine iR (λw j=>(h w j).mono ?_) I m o
 rintro e i ⟨a,b,c,g,rfl,l⟩
 exact ⟨_,_,I,l,k a b c g⟩
theorem EN{v:A1->A2->A3->A4->A5->Value}{news:A1->A2->A3->A4->A5->List Ch}(h:∀ w,Mm w0 F cs w->Calls P f args w λe j=>∃ a,∃ b,∃ c,∃ g,∃ i,e = .returned (v a b c g i)/\aN [] w (news a b c g i) j)(k:∀ a b c g i,St n w0 F ((d,v a b c g i)::E) (cs++news a b c g i) K)(o:dH n E ⟨some d,op,t,pos,aft,gd⟩=true:=by kernel_rfl)(p:∀ w,(execOp (evE E) ⟨some d,op,t,pos,aft,gd⟩).run P w = .ok (.enter f args) w:=by intro _; kernel_rfl):eK P Q n w0 F E cs ⟨some d,op,t,pos,aft,gd⟩ K:=by
 refine iR (λw l=>(h w l).mono ?_) I o p
 rintro e j ⟨a,b,c,g,i,rfl,m⟩
 exact ⟨_,_,I,m,k a b c g i⟩
theorem Ck{v:A1->A2->A3->A4->A5->A6->A7->A8->A9->A10->Value}{news:A1->A2->A3->A4->A5->A6->A7->A8->A9->A10->List Ch}(h:∀ w,Mm w0 F cs w->Calls P f args w λe q=>∃ b,∃ c,∃ g,∃ i,∃ j,∃ l,∃ m,∃ o,∃ p,∃ a,e = .returned (v b c g i j l m o p a)/\aN [] w (news b c g i j l m o p a) q)(k:∀ b c g i j l m o p a,St n w0 F ((d,v b c g i j l m o p a)::E) (cs++news b c g i j l m o p a) K)(u:dH n E ⟨some d,op,t,pos,aft,gd⟩=true:=by kernel_rfl)(x:∀ w,(execOp (evE E) ⟨some d,op,t,pos,aft,gd⟩).run P w = .ok (.enter f args) w:=by intro _; kernel_rfl):eK P Q n w0 F E cs ⟨some d,op,t,pos,aft,gd⟩ K:=by
 refine iR (λw r=>(h w r).mono ?_) I u x
 rintro e q ⟨b,c,g,i,j,l,m,o,p,a,rfl,s⟩
 exact ⟨_,_,I,s,k b c g i j l m o p a⟩
theorem eF{v:Ω}{news:List Ch}{b:Ch}(a)(h:∀ w,Mm w0 F cs w->cC ms w->Calls P f args w λe c=>e = .returned (v)/\aN ms w (b::news) c)(k:St n w0 F ((d,v)::E) (aU cs a [b]++news) K)(q:jG cs a=ms:=by rfl)(l:qW cs.length a=true:=by rfl)(o:a.length=1:=by rfl)(m:dH n E ⟨some d,op,t,pos,aft,gd⟩=true:=by kernel_rfl)(p:∀ w,(execOp (evE E) ⟨some d,op,t,pos,aft,gd⟩).run P w = .ok (.enter f args) w:=by intro _; kernel_rfl):eK P Q n w0 F E cs ⟨some d,op,t,pos,aft,gd⟩ K:=by
 refine fT a ms (λw g i=>(h w g i).mono ?_) I q l m p
 rintro e c ⟨rfl,j⟩
 exact ⟨_,[b],_,I,j,o.symm,k⟩
theorem iI{v:A1->A2->Value}{news:A1->A2->List Ch}{g:A1->A2->Ch}(c)(h:∀ w,Mm w0 F cs w->cC ms w->Calls P f args w λe i=>∃ a,∃ b,e = .returned (v a b)/\aN ms w (g a b::news a b) i)(k:∀ a b,St n w0 F ((d,v a b)::E) (aU cs c [g a b]++news a b) K)(s:jG cs c=ms:=by rfl)(o:qW cs.length c=true:=by rfl)(q:c.length=1:=by rfl)(p:dH n E ⟨some d,op,t,pos,aft,gd⟩=true:=by kernel_rfl)(r:∀ w,(execOp (evE E) ⟨some d,op,t,pos,aft,gd⟩).run P w = .ok (.enter f args) w:=by intro _; kernel_rfl):eK P Q n w0 F E cs ⟨some d,op,t,pos,aft,gd⟩ K:=by
 refine fT c ms (λw j l=>(h w j l).mono ?_) I s o p r
 rintro e i ⟨a,b,rfl,m⟩
 exact ⟨_,[_],_,I,m,q.symm,k a b⟩
theorem iS{v:A1->A2->Value}{news:A1->A2->List Ch}{i:A1->A2->Ch}{g:A1->A2->Prop}(c)(h:∀ w,Mm w0 F cs w->cC ms w->Calls P f args w λe j=>∃ a,∃ b,e = .returned (v a b)/\aN ms w (i a b::news a b) j/\g a b)(k:∀ a b,g a b->St n w0 F ((d,v a b)::E) (aU cs c [i a b]++news a b) K)(x:jG cs c=ms:=by rfl)(q:qW cs.length c=true:=by rfl)(s:c.length=1:=by rfl)(r:dH n E ⟨some d,op,t,pos,aft,gd⟩=true:=by kernel_rfl)(u:∀ w,(execOp (evE E) ⟨some d,op,t,pos,aft,gd⟩).run P w = .ok (.enter f args) w:=by intro _; kernel_rfl):eK P Q n w0 F E cs ⟨some d,op,t,pos,aft,gd⟩ K:=by
 refine fT c ms (λw m o=>(h w m o).mono ?_) I x q r u
 rintro e j ⟨a,b,rfl,p,l⟩
 exact ⟨_,[_],_,I,p,s.symm,k a b l⟩
theorem jO{v:A1->A2->A3->A4->Value}{news:A1->A2->A3->A4->List Ch}{l:A1->A2->A3->A4->Ch}{j:A1->A2->A3->A4->Prop}(i)(h:∀ w,Mm w0 F cs w->cC ms w->Calls P f args w λe m=>∃ a,∃ b,∃ c,∃ g,e = .returned (v a b c g)/\aN ms w (l a b c g::news a b c g) m/\j a b c g)(k:∀ a b c g,j a b c g->St n w0 F ((d,v a b c g)::E) (aU cs i [l a b c g]++news a b c g) K)(z:jG cs i=ms:=by rfl)(s:qW cs.length i=true:=by rfl)(x:i.length=1:=by rfl)(u:dH n E ⟨some d,op,t,pos,aft,gd⟩=true:=by kernel_rfl)(y:∀ w,(execOp (evE E) ⟨some d,op,t,pos,aft,gd⟩).run P w = .ok (.enter f args) w:=by intro _; kernel_rfl):eK P Q n w0 F E cs ⟨some d,op,t,pos,aft,gd⟩ K:=by
 refine fT i ms (λw p q=>(h w p q).mono ?_) I z s u y
 rintro e m ⟨a,b,c,g,rfl,r,o⟩
 exact ⟨_,[_],_,I,r,x.symm,k a b c g o⟩
theorem iT{v:A1->A2->Value}{news:A1->A2->List Ch}{g:A1->A2->Ch}{i:A1->A2->Ch}(c)(h:∀ w,Mm w0 F cs w->cC ms w->Calls P f args w λe j=>∃ a,∃ b,e = .returned (v a b)/\aN ms w (g a b::i a b::news a b) j)(k:∀ a b,St n w0 F ((d,v a b)::E) (aU cs c [g a b,i a b]++news a b) K)(u:jG cs c=ms:=by rfl)(p:qW cs.length c=true:=by rfl)(r:c.length=2:=by rfl)(q:dH n E ⟨some d,op,t,pos,aft,gd⟩=true:=by kernel_rfl)(s:∀ w,(execOp (evE E) ⟨some d,op,t,pos,aft,gd⟩).run P w = .ok (.enter f args) w:=by intro _; kernel_rfl):eK P Q n w0 F E cs ⟨some d,op,t,pos,aft,gd⟩ K:=by
 refine fT c ms (λw l m=>(h w l m).mono ?_) I u p q s
 rintro e j ⟨a,b,rfl,o⟩
 exact ⟨_,[_,_],_,I,o,r.symm,k a b⟩
end
end
theorem Rh(n:Nat)(a:1<=n)(b:n<=31):bits BinOp.and IntKind.u64 (IntKind.u64.wrap (-(n:Int))) 31=((32 - n:Nat):Int):=by
 have e:IntKind.u64.wrap (-n)=((18446744073709551616 - n:Nat)):=by
  grind [IntKind.wrap_u64]
 have h:=u64_and_nat (18446744073709551616 - n) 31 U U
 grind [nat_mask5]
theorem Jv(x k:Nat):(x:Int)*2 ^ k % 4294967296=((x*2 ^ k % 4294967296:Nat):Int):=by
 grind
theorem EO(x k:Nat):(x:Int) / 2 ^ k=((x / 2 ^ k:Nat):Int):=by
 grind
theorem Ri(x n)(a:dS x)(b:n<=31):bits BinOp.or IntKind.u32 ((x:Int)*2 ^ (32 - n) % 4294967296) ((x:Int) / 2 ^ (32 - (32 - n)))=((rotr n x:Nat):Int):=by
 rw [show 32 - (32 - n)=n by omega,Jv,EO,AGd _ _ (z8 _ (by decide)) (a.div _),Nat.or_comm]
 rfl
theorem Rj(x n:Nat)(w)(hx:dS x)(h1:1<=n)(h2:n<=31):
  Calls Tryz.prog 185 #[.int .u32 (x:Int),C (-(n:Int))] w λe w'=>e = .returned (.int .u32 (rotr n x:Int))/\w=w':=by
 have hc:=Rh n h1 h2
 have HR:=D3 (Ri x n hx h2)
 go_enter Tryz.func185,Tryz.ntmps185
 go_wp2_with fail
 go_ret
 exact ⟨jK HR.out,rfl⟩
theorem sJ(x n:Nat)(k w)(c:k = -(n:Int))(d:dS x)(a:1<=n)(b:n<=31):
  Θ 185 #[.int .u32 (x:Int),C k] w λe f=>e = .returned (.int .u32 (rotr n x:Int))/\w=f:=by
 rw [c]
 exact Rj x n w d a b
def U4(l:List Nat):List Value:=l.map λx:Nat=>Value.int .u32 (x:Int)
theorem uY(l)(i x:Nat)(h:l[i]?=some x):(U4 l)[i]?=some (.int .u32 (x:Int)):=by simp [U4,h]
theorem kC(l):(U4 l).length=l.length:=by simp [U4]
structure eG (w:World):Prop where
 init:∀ i x:Nat,mH[i]?=some x -> w.cell? ⟨0,i,none⟩=some (.int .u32 (x:Int))
 cons:∀ i x:Nat,pF[i]?=some x -> w.cell? ⟨1,i,none⟩=some (.int .u32 (x:Int))
theorem eG.lt(h:eG w):1 < w.heap.size:=World.block_lt_of_cell? w ⟨1,0,none⟩ (h.cons 0 _ I)
theorem eG.fr(h:eG w)(b:Fr S w w')(c:0∉S)(d:1∉S):eG w':=by
 have e:=h.lt
 exact ⟨λi x a=>by rw [b.cell oz c]; exact h.init i x a,λi x a=>by rw [b.cell e d]; exact h.cons i x a⟩
theorem Cl(v:UInt8):IntKind.u32.wrap (v.toNat:Int)=(v.toNat:Int):=by
 grind [IntKind.wrap_u32',UInt8.toNat_lt]
theorem Jw(a b c v3:UInt8):
  bits BinOp.or IntKind.u32 (bits BinOp.or IntKind.u32 (bits BinOp.or IntKind.u32 (IntKind.u32.wrap (IntKind.u32.wrap (a.toNat:Int)*16777216)) (IntKind.u32.wrap (IntKind.u32.wrap (b.toNat:Int)*65536))) (IntKind.u32.wrap (IntKind.u32.wrap (c.toNat:Int)*256))) (IntKind.u32.wrap (v3.toNat:Int)) =
   (((a.toNat*2 ^ 24) ||| (b.toNat*2 ^ 16) ||| (c.toNat*2 ^ 8) ||| v3.toNat:Nat):Int):=by
 have j:=V1 a
 have k:=V1 b
 have l:=V1 c
 have m:=V1 v3
 have g:IntKind.u32.wrap (a.toNat*16777216)=((a.toNat*2 ^ 24:Nat)):=by rw [AB2]; omega
 have h:IntKind.u32.wrap (b.toNat*65536)=((b.toNat*2 ^ 16:Nat)):=by rw [AB2]; omega
 have i:IntKind.u32.wrap (c.toNat*256)=((c.toNat*2 ^ 8:Nat)):=by rw [AB2]; omega
 have d:=xW a 24 U
 have e:=xW b 16 U
 have f:=xW c 8 U
 rw [Cl,Cl,Cl,Cl,g,h,i,AGd _ _ d e,AGd _ _ (d.or e) f,AGd _ _ ((d.or e).or f) U]
theorem Jx(x)(h:dS x):bits BinOp.xor IntKind.u32 (bits BinOp.xor IntKind.u32 (rotr 17 x:Int) (rotr 19 x:Int)) ((x:Int) / 1024)=((rZ x:Nat):Int):=by
 have e:(x:Int) / 1024=((x / 2 ^ 10:Nat)):=U
 rw [e,p9 _ _ (h.rotr 17) (h.rotr 19),p9 _ _ ((h.rotr 17).xor (h.rotr 19)) (h.div _)]
 rfl
theorem Jy(x)(h:dS x):bits BinOp.xor IntKind.u32 (bits BinOp.xor IntKind.u32 (rotr 7 x:Int) (rotr 18 x:Int)) ((x:Int) / 8)=((tM x:Nat):Int):=by
 have e:(x:Int) / 8=((x / 2 ^ 3:Nat)):=U
 rw [e,p9 _ _ (h.rotr 7) (h.rotr 18),p9 _ _ ((h.rotr 7).xor (h.rotr 18)) (h.div _)]
 rfl
theorem Rk(x)(h:dS x):bits BinOp.xor IntKind.u32 (bits BinOp.xor IntKind.u32 (rotr 6 x:Int) (rotr 11 x:Int)) (rotr 25 x:Int)=((Eb x:Nat):Int):=by
 rw [p9 _ _ (h.rotr 6) (h.rotr 11),p9 _ _ ((h.rotr 6).xor (h.rotr 11)) (h.rotr 25)]
 rfl
theorem Rl(x)(h:dS x):bits BinOp.xor IntKind.u32 (bits BinOp.xor IntKind.u32 (rotr 2 x:Int) (rotr 13 x:Int)) (rotr 22 x:Int)=((Ec x:Nat):Int):=by
 rw [p9 _ _ (h.rotr 2) (h.rotr 13),p9 _ _ ((h.rotr 2).xor (h.rotr 13)) (h.rotr 22)]
 rfl
theorem Rm(e)(h:dS e):4294967295 ^^^ e=4294967295 - e:=by
 have a:BitVec.allOnes 32 ^^^ BitVec.ofNat 32 e = ~~~ (BitVec.ofNat 32 e):=BitVec.allOnes_xor
 have:=U0 BitVec.toNat a
 rw [BitVec.toNat_xor,BitVec.toNat_not,BitVec.toNat_allOnes,BitVec.toNat_ofNat,l8 h] at this
 omega
theorem Rn(e)(h:dS e):bits BinOp.xor IntKind.u32 (if IntKind.u32.signed=true then -1 else IntKind.u32.max) (e:Int)=((4294967295 - e:Nat):Int):=by
 have:=p9 4294967295 e (by decide) h
 rw [Rm e h] at this
 exact this
theorem Jz(a b c d e f g h k w:Nat)(ok:S8.Ok ⟨a,b,c,d,e,f,g,h⟩):
  ∃ A r ne y q B D E t1 z o ac p t s t2 u x:Nat,
    bits BinOp.xor IntKind.u32 (bits BinOp.xor IntKind.u32 (rotr 6 e:Int) (rotr 11 e:Int)) (rotr 25 e:Int)=(A:Int) /\
    bits BinOp.xor IntKind.u32 (bits BinOp.xor IntKind.u32 (rotr 2 a:Int) (rotr 13 a:Int)) (rotr 22 a:Int)=(z:Int) /\
    bits BinOp.and IntKind.u32 (e:Int) (f:Int)=(r:Int) /\
    bits BinOp.xor IntKind.u32 (if IntKind.u32.signed=true then -1 else IntKind.u32.max) (e:Int)=(ne:Int) /\
    bits BinOp.and IntKind.u32 (ne:Int) (g:Int)=(y:Int) /\
    bits BinOp.xor IntKind.u32 (r:Int) (y:Int)=(q:Int) /\
    IntKind.u32.wrap ((h:Int)+(A:Int))=(B:Int) /\
    IntKind.u32.wrap ((B:Int)+(q:Int))=(D:Int) /\
    IntKind.u32.wrap ((D:Int)+(k:Int))=(E:Int) /\
    IntKind.u32.wrap ((E:Int)+(w:Int))=(t1:Int) /\
    bits BinOp.and IntKind.u32 (a:Int) (b:Int)=(o:Int) /\
    bits BinOp.and IntKind.u32 (a:Int) (c:Int)=(ac:Int) /\
    bits BinOp.and IntKind.u32 (b:Int) (c:Int)=(p:Int) /\
    bits BinOp.xor IntKind.u32 (o:Int) (ac:Int)=(t:Int) /\
    bits BinOp.xor IntKind.u32 (t:Int) (p:Int)=(s:Int) /\
    IntKind.u32.wrap ((z:Int)+(s:Int))=(t2:Int) /\
    IntKind.u32.wrap ((t1:Int)+(t2:Int))=(u:Int) /\
    IntKind.u32.wrap ((d:Int)+(t1:Int))=(x:Int) /\
    Hid (S8.wA ⟨a,b,c,d,e,f,g,h⟩ k w=⟨u,a,b,c,x,e,f,g⟩):=by
 obtain ⟨l,j,i,F,m,of,n,H⟩:=ok
 simp only at l j i F m of n H
 refine ⟨_,_,_,_,_,_,_,_,_,_,_,_,_,_,_,_,_,_,Rk e m,Rl a l,AFc _ _ m of,Rn e m,AFc _ _ (dS.not e) n,p9 _ _ (dS.and of) (dS.and n),
  nQ _ _,nQ _ _,nQ _ _,nQ _ _,AFc _ _ l j,AFc _ _ l i,AFc _ _ j i,p9 _ _ (dS.and j) (dS.and i),p9 _ _ ((dS.and j).xor (dS.and i)) (dS.and i),nQ _ _,nQ _ _,nQ _ _,?_⟩
 rfl
def lI(blk:List UInt8)(t:Nat):List Value:=U4 (nP blk t)++List.replicate (64 - t) (.int .u32 0)
theorem EP(a t)(h:t < 64)(x)(c:x=if t < 16 then word a t else xV (nP a t) t):(lI a t).set t (.int .u32 (x:Int))=lI a (t+1):=by
 unfold lI
 rw [V3 _ _ (by rw [kC,sB]; exact J7 _),kC,sB,W6]
 obtain ⟨m,b⟩:∃ m,64 - t=m+1:=⟨63 - t,U⟩
 rw [b,AA8,Z7,show 64 - (t+1)=m by omega]
 simp only [nP,U4,U1,X4,Y8,D1,Z2,U6,<- c]
theorem sK(a t i)(h:i < t):∃ x,(nP a t).getD i 0=x/\dS x/\(lI a t)[i]?=some (.int .u32 (x:Int)):=by
 have b:i < (nP a t).length:=by rw [sB]; omega
 refine ⟨_,I,tN (dS.sched a t) i,?_⟩
 unfold lI
 rw [R1 (by rw [kC]; exact b)]
 apply uY
 rw [U5,E1 b]
 rfl
theorem JA(H X rest k y x)(e:H[k]?=some y)(f:X[k]?=some x):
  (U4 ((List.zipWith fG H X).take k++H.drop k)++rest).set k (.int .u32 ((fG y x:Nat):Int))=U4 ((List.zipWith fG H X).take (k+1)++H.drop (k+1))++rest:=by
 obtain ⟨d,a⟩:=C4.1 e
 obtain ⟨i,c⟩:=C4.1 f
 have b:((List.zipWith fG H X).take k).length=k:=by simp; omega
 have g:H.drop k=y::H.drop (k+1):=by rw [V2 d,a]
 have h:(List.zipWith fG H X).take (k+1)=(List.zipWith fG H X).take k++[fG y x]:=by
  rw [O5 (by simp; omega)]
  simp [a,c]
 rw [h,g]
 unfold U4
 rw [U1,U1,U1,D1,D1,D1,V3 _ _ (by rw [K0,b]; exact J7 _),K0,b,W6]
 rfl
theorem JB(H X rest)(k y x:Nat)(a:H[k]?=some y)(b:X[k]?=some x):(U4 ((List.zipWith fG H X).take k++H.drop k)++rest)[k]?=some (.int .u32 (y:Int)):=by
 obtain ⟨f,d⟩:=C4.1 a
 obtain ⟨g,e⟩:=C4.1 b
 have h:((List.zipWith fG H X).take k).length=k:=by grind
 have c:H.drop k=y::H.drop (k+1):=by grind [List.drop_eq_getElem_cons]
 rw [c]
 unfold U4
 grind
set_option maxHeartbeats 4000000 in
theorem ER(b g o cap H rest)(blk:Γ)(w)(hv:eG w)(hat:At w b 223 (U4 H++rest))(hH:H.length=8)(hW:∀ x∈H,dS x)(hbl:blk.length=64)(hcap:64<=cap)(hrow:aI w (some ⟨g,o,none⟩) (B8 blk)):
  Calls Tryz.prog 156 #[Value.pointer (qa b),.slice (some ⟨g,o,none⟩) 64 cap] w λe w'=>e = .returned (.tuple #[])/\Fr [b] w w'/\At w' b 223 (U4 (lO H blk)++rest):=by
 have HV:=D3 hv
 have HA:=D3 (And.intro hat (And.intro hH hW))
 have HR:=D3 (And.intro hbl hrow)
 clear hv hat hH hW hbl hrow
 go_enter Tryz.func156,Tryz.ntmps156
 go_wp2_with fail
 change Code.wp _ _ _ _ (w.alloc (.cells (lI blk 0).toArray 224))
 have HW0:Hid (Fr [] w (w.alloc (.cells (lI blk 0).toArray 224))/\At (w.alloc (.cells (lI blk 0).toArray 224)) w.heap.size 224 (lI blk 0)):=⟨(Fr.refl _ _).alloc _,At.new _ _ _⟩
 generalize w.alloc (.cells (lI blk 0).toArray 224)=W0 at HW0 ⊢
 go_loopw [27] (λi wr=>∃ t:Nat,t<=64/\i = .int .i64 t/\Hid (Fr [] w wr/\At wr w.heap.size 224 (lI blk t))) (λi _=>64 - (intOf i).toNat)
 case atStart=>exact ⟨0,by omega,rfl,HW0⟩
 case round =>
  obtain ⟨t,ht,rfl,HL⟩:=hrel
  by_cases hlt:t < 64
  .by_cases h16:t < 16
   .have hn:cap≠4*t:=U
    have hnI:¬ ((cap:Int)=4*(t:Int)):=U
    obtain ⟨⟨v0,e0,c0,k0⟩,⟨v1,e1,c1,k1⟩,⟨v2,e2,c2,k2⟩,⟨v3,e3,c3,k3⟩⟩:(∃ v:UInt8,blk.getD (4*t) 0=v/\wr.cell? ⟨g,o+4*t,none⟩=some (.int .u8 (v.toNat:Int))/\g < w.heap.size)/\(∃ v:UInt8,blk.getD (4*t+1) 0=v/\wr.cell? ⟨g,o+4*t+1,none⟩=some (.int .u8 (v.toNat:Int))/\g < w.heap.size)/\(∃ v:UInt8,blk.getD (4*t+2) 0=v/\wr.cell? ⟨g,o+4*t+2,none⟩=some (.int .u8 (v.toNat:Int))/\g < w.heap.size)/\(∃ v:UInt8,blk.getD (4*t+3) 0=v/\wr.cell? ⟨g,o+4*t+3,none⟩=some (.int .u8 (v.toNat:Int))/\g < w.heap.size):=by
     have key:∀ i,i < 64->∃ v:UInt8,blk.getD i 0=v/\wr.cell? ⟨g,o+i,none⟩=some (.int .u8 (v.toNat:Int))/\g < w.heap.size:=by
      intro i hi
      have hg:=E1 (l:=blk) (i:=i) (by rw [HR.out.1]; exact hi)
      obtain ⟨g',o',hA,hg',hc⟩:=HR.out.2 i _ (uN blk i _ hg)
      injection hA with hA
      injection hA with a1 a2
      subst a1 a2
      refine ⟨_,by rw [U5,hg,Option.getD_some],?_,hg'⟩
      rw [HL.out.1.cell (p:=⟨g,o+i,none⟩) hg' si]
      exact hc
     exact ⟨key (4*t) U,key (4*t+1) U,key (4*t+2) U,key (4*t+3) U⟩
    have n0:g≠w.heap.size:=U
    have n1:w.heap.size≠g:=U
    have wc:wr.cell? ⟨w.heap.size,t,none⟩=some (.int .u32 0):=by
     rw [HL.out.2.cell]
     unfold lI
     rw [T8 (by rw [kC,sB]; exact J7 _),kC,sB,W6,s9,P1 U]
    have wf:=HL.out.2.frozen t
    have HE:=D3 (And.intro e0 (And.intro e1 (And.intro e2 e3)))
    have b0:=V1 v0
    have b1:=V1 v1
    have b2:=V1 v2
    have b3:=V1 v3
    clear e0 e1 e2 e3 k0 k1 k2 k3
    go_wp2_with fail
    rw [show 4*t+4 - 4*t=4 by omega]
    go_region_held3 (λw'=>w'.cell? ⟨g,o+4*t,none⟩=some (.int .u8 (v0.toNat:Int))/\w'.cell? ⟨g,o+4*t+1,none⟩=some (.int .u8 (v1.toNat:Int))/\w'.cell? ⟨g,o+4*t+2,none⟩=some (.int .u8 (v2.toNat:Int))/\w'.cell? ⟨g,o+4*t+3,none⟩=some (.int .u8 (v3.toNat:Int))) (go_keep) (first | fail)
    have HN:Hid (Fr [] w (wr.setCell ⟨w.heap.size,t,none⟩ (.int .u32 (bits BinOp.or IntKind.u32 (bits BinOp.or IntKind.u32 (bits BinOp.or IntKind.u32 (IntKind.u32.wrap (IntKind.u32.wrap (v0.toNat:Int)*16777216)) (IntKind.u32.wrap (IntKind.u32.wrap (v1.toNat:Int)*65536))) (IntKind.u32.wrap (IntKind.u32.wrap (v2.toNat:Int)*256))) (IntKind.u32.wrap (v3.toNat:Int))))).drew/\At (wr.setCell ⟨w.heap.size,t,none⟩ (.int .u32 (bits BinOp.or IntKind.u32 (bits BinOp.or IntKind.u32 (bits BinOp.or IntKind.u32 (IntKind.u32.wrap (IntKind.u32.wrap (v0.toNat:Int)*16777216)) (IntKind.u32.wrap (IntKind.u32.wrap (v1.toNat:Int)*65536))) (IntKind.u32.wrap (IntKind.u32.wrap (v2.toNat:Int)*256))) (IntKind.u32.wrap (v3.toNat:Int))))).drew w.heap.size 224 (lI blk (t+1))):=by
     refine ⟨(HL.out.1.setCell (.inr (J7 _)) _).drew,?_⟩
     have:=(HL.out.2.set t (.int .u32 (bits BinOp.or IntKind.u32 (bits BinOp.or IntKind.u32 (bits BinOp.or IntKind.u32 (IntKind.u32.wrap (IntKind.u32.wrap (v0.toNat:Int)*16777216)) (IntKind.u32.wrap (IntKind.u32.wrap (v1.toNat:Int)*65536))) (IntKind.u32.wrap (IntKind.u32.wrap (v2.toNat:Int)*256))) (IntKind.u32.wrap (v3.toNat:Int))))).drew
     rw [Jw] at this ⊢
     rw [EP blk t hlt _ (by rw [P1 h16]; unfold word; rw [HE.out.1,HE.out.2.1,HE.out.2.2.1,HE.out.2.2.2])] at this
     exact this
    rename_i hHeld
    clear hHeld
    generalize (wr.setCell ⟨w.heap.size,t,none⟩ (.int .u32 (bits BinOp.or IntKind.u32 (bits BinOp.or IntKind.u32 (bits BinOp.or IntKind.u32 (IntKind.u32.wrap (IntKind.u32.wrap (v0.toNat:Int)*16777216)) (IntKind.u32.wrap (IntKind.u32.wrap (v1.toNat:Int)*65536))) (IntKind.u32.wrap (IntKind.u32.wrap (v2.toNat:Int)*256))) (IntKind.u32.wrap (v3.toNat:Int))))).drew=W1 at HN ⊢
    go_wp2_with fail
    go_roundw
    case rel=>exact ⟨t+1,by omega,by go_num,HN⟩
    case measure=>simp [intOf]; omega
   .obtain ⟨x2,f2,w2,c2⟩:=sK blk t (t - 2) U
    obtain ⟨x7,f7,w7,c7⟩:=sK blk t (t - 7) U
    obtain ⟨x15,f15,w15,c15⟩:=sK blk t (t - 15) U
    obtain ⟨x16,f16,w16,c16⟩:=sK blk t (t - 16) U
    rw [<- HL.out.2.cell] at c2 c7 c15 c16
    have wc:wr.cell? ⟨w.heap.size,t,none⟩=some (.int .u32 0):=by
     rw [HL.out.2.cell]
     unfold lI
     rw [T8 (by rw [kC,sB]; exact J7 _),kC,sB,W6,s9,P1 U]
    have wf:=HL.out.2.frozen t
    have HE:=D3 (And.intro f2 (And.intro f7 (And.intro f15 f16)))
    have HW:=D3 (And.intro w2 (And.intro w7 (And.intro w15 w16)))
    have s2:(0:Int)<=(t:Int) - 2:=U
    have s2n:((t:Int) - 2).toNat=t - 2:=U
    have s2w:IntKind.i64.wrap ((t:Int) - 2)=(t:Int) - 2:=Z3 _ U
    have s15:(0:Int)<=(t:Int) - 15:=U
    have s15n:((t:Int) - 15).toNat=t - 15:=U
    have s15w:IntKind.i64.wrap ((t:Int) - 15)=(t:Int) - 15:=Z3 _ U
    have s2l:(t:Int) - 2 < 64:=U
    have s15l:(t:Int) - 15 < 64:=U
    have r1:=Jx x2 w2
    have r0:=Jy x15 w15
    have a1:=nQ (rZ x2) x7
    have a2:=nQ (fG (rZ x2) x7) (tM x15)
    have a3:=nQ (fG (fG (rZ x2) x7) (tM x15)) x16
    have s7:(0:Int)<=(t:Int) - 7:=U
    have s7n:((t:Int) - 7).toNat=t - 7:=U
    have s7w:IntKind.i64.wrap ((t:Int) - 7)=(t:Int) - 7:=Z3 _ U
    have s16:(0:Int)<=(t:Int) - 16:=U
    have s16n:((t:Int) - 16).toNat=t - 16:=U
    have s16w:IntKind.i64.wrap ((t:Int) - 16)=(t:Int) - 16:=Z3 _ U
    have s7l:(t:Int) - 7 < 64:=U
    have s16l:(t:Int) - 16 < 64:=U
    have g7:(7:Int)<=(t:Int):=U
    have g7n:7<=t:=U
    have g16:(16:Int)<=(t:Int):=U
    have g16n:16<=t:=U
    have o7:t - 7≠t:=U
    have o7':t≠t - 7:=U
    have o16:t - 16≠t:=U
    have o16':t≠t - 16:=U
    clear f2 f7 f15 f16 w2 w7 w15 w16
    go_wp2_with fail
    go_quiet (fail)
    go_wp2_with fail
    refine (sJ x2 17 _ _ rfl HW.out.1 U U).mono ?_
    rintro e w' ⟨rfl,rfl⟩
    go_wp2_with fail
    refine (sJ x2 19 _ _ rfl HW.out.1 U U).mono ?_
    rintro e w' ⟨rfl,rfl⟩
    go_wp2_with fail
    refine (sJ x15 7 _ _ rfl HW.out.2.2.1 U U).mono ?_
    rintro e w' ⟨rfl,rfl⟩
    go_wp2_with fail
    refine (sJ x15 18 _ _ rfl HW.out.2.2.1 U U).mono ?_
    rintro e w' ⟨rfl,rfl⟩
    go_wp2_with fail
    go_region_held3 (λw'=>w'.cell? ⟨w.heap.size,t - 7,none⟩=some (.int .u32 (x7:Int))/\w'.cell? ⟨w.heap.size,t - 16,none⟩=some (.int .u32 (x16:Int))) (first | go_keep | (go_split_ands; refine ⟨?_,?_⟩ <;> (rw [World.cell?_setCell_other _ _ _ _ (by intro e; injection e; omega)]; assumption))) (first | fail)
    have HN:Hid (Fr [] w ((wr.drewN (nq+1)).setCell ⟨w.heap.size,t,none⟩ (.int .u32 ((fG (fG (fG (rZ x2) x7) (tM x15)) x16:Nat):Int)))/\At ((wr.drewN (nq+1)).setCell ⟨w.heap.size,t,none⟩ (.int .u32 ((fG (fG (fG (rZ x2) x7) (tM x15)) x16:Nat):Int))) w.heap.size 224 (lI blk (t+1))):=by
     refine ⟨(HL.out.1.drewN _).setCell (.inr (J7 _)) _,?_⟩
     have:=(HL.out.2.drewN (nq+1)).set t (.int .u32 ((fG (fG (fG (rZ x2) x7) (tM x15)) x16:Nat):Int))
     rw [EP blk t hlt _ (by rw [P4 U]; unfold xV; rw [HE.out.1,HE.out.2.1,HE.out.2.2.1,HE.out.2.2.2])] at this
     exact this
    rename_i hHeld
    clear hHeld
    generalize (wr.drewN (nq+1)).setCell ⟨w.heap.size,t,none⟩ (.int .u32 ((fG (fG (fG (rZ x2) x7) (tM x15)) x16:Nat):Int))=W1 at HN ⊢
    clear r1 r0 a1 a2 a3 s2 s2n s2w s15 s15n s15w s7 s7n s7w s16 s16n s16w c2 c7 c15 c16 wc wf
    go_wp2_with fail
    go_roundw
    case rel=>exact ⟨t+1,by omega,by go_num,HN⟩
    case measure=>simp [intOf]; omega
  .obtain rfl:t=64:=U
   obtain ⟨h0,h1,h2,h3,h4,h5,h6,h7,HH⟩:∃ h0 h1 h2 h3 h4 h5 h6 h7:Nat,Hid (H=[h0,h1,h2,h3,h4,h5,h6,h7]):=by
    have hl:=HA.out.2.1
    match H,hl with
    | [h0,h1,h2,h3,h4,h5,h6,h7],_=>exact ⟨h0,h1,h2,h3,h4,h5,h6,h7,rfl⟩
   have hab:=HA.out.1.fr HL.out.1 si
   have d0:wr.cell? ⟨b,0,none⟩=some (.int .u32 (h0:Int)):=by rw [hab.cell,HH.out]; rfl
   have d1:wr.cell? ⟨b,1,none⟩=some (.int .u32 (h1:Int)):=by rw [hab.cell,HH.out]; rfl
   have d2:wr.cell? ⟨b,2,none⟩=some (.int .u32 (h2:Int)):=by rw [hab.cell,HH.out]; rfl
   have d3:wr.cell? ⟨b,3,none⟩=some (.int .u32 (h3:Int)):=by rw [hab.cell,HH.out]; rfl
   have d4:wr.cell? ⟨b,4,none⟩=some (.int .u32 (h4:Int)):=by rw [hab.cell,HH.out]; rfl
   have d5:wr.cell? ⟨b,5,none⟩=some (.int .u32 (h5:Int)):=by rw [hab.cell,HH.out]; rfl
   have d6:wr.cell? ⟨b,6,none⟩=some (.int .u32 (h6:Int)):=by rw [hab.cell,HH.out]; rfl
   have d7:wr.cell? ⟨b,7,none⟩=some (.int .u32 (h7:Int)):=by rw [hab.cell,HH.out]; rfl
   clear hab
   go_wp2_with fail
   go_quiet (fail)
   go_wp2_with fail
   have HVV:Hid (Fr [] w ((wr.alloc (.cells #[.int .u32 (h0:Int),.int .u32 (h1:Int),.int .u32 (h2:Int),.int .u32 (h3:Int),.int .u32 (h4:Int),.int .u32 (h5:Int),.int .u32 (h6:Int),.int .u32 (h7:Int)] 186)).drewN nq)/\At ((wr.alloc (.cells #[.int .u32 (h0:Int),.int .u32 (h1:Int),.int .u32 (h2:Int),.int .u32 (h3:Int),.int .u32 (h4:Int),.int .u32 (h5:Int),.int .u32 (h6:Int),.int .u32 (h7:Int)] 186)).drewN nq) w.heap.size 224 (lI blk 64)/\At ((wr.alloc (.cells #[.int .u32 (h0:Int),.int .u32 (h1:Int),.int .u32 (h2:Int),.int .u32 (h3:Int),.int .u32 (h4:Int),.int .u32 (h5:Int),.int .u32 (h6:Int),.int .u32 (h7:Int)] 186)).drewN nq) wr.heap.size 186 [.int .u32 (h0:Int),.int .u32 (h1:Int),.int .u32 (h2:Int),.int .u32 (h3:Int),.int .u32 (h4:Int),.int .u32 (h5:Int),.int .u32 (h6:Int),.int .u32 (h7:Int)]):=⟨(HL.out.1.alloc _).drewN _,(HL.out.2.alloc _).drewN _,(At.new _ _ _).drewN _⟩
   generalize (wr.alloc (.cells #[.int .u32 (h0:Int),.int .u32 (h1:Int),.int .u32 (h2:Int),.int .u32 (h3:Int),.int .u32 (h4:Int),.int .u32 (h5:Int),.int .u32 (h6:Int),.int .u32 (h7:Int)] 186)).drewN nq=V at HVV ⊢
   obtain ⟨bv,hbv⟩:∃ bv,bv=wr.heap.size:=⟨_,rfl⟩
   rw [<- hbv] at HVV ⊢
   have hws:=HL.out.1.size
   have hbvw:w.heap.size < bv:=by rw [hbv]; exact HL.out.2.lt
   clear d0 d1 d2 d3 d4 d5 d6 d7 hbv HL hws
   obtain ⟨s0,HS0⟩:∃ s0:S8,Hid (s0=S8.of H/\s0.Ok):=⟨_,rfl,S8.PG HA.out.2.2⟩
   obtain ⟨WS,HWS⟩:∃ WS,Hid (WS=nP blk 64):=⟨_,rfl⟩
   go_loopw [12,13,14,15,16,17,18,19,123] (λza zb zc zd ze zf zg zh i wx=>∃ (t:Nat) (s:S8),t<=64/\i = .int .i64 t/\za = .int .u32 (s.a:Int)/\zb = .int .u32 (s.b:Int)/\zc = .int .u32 (s.c:Int)/\zd = .int .u32 (s.d:Int)/\ze = .int .u32 (s.e:Int)/\zf = .int .u32 (s.f:Int)/\zg = .int .u32 (s.g:Int)/\zh = .int .u32 (s.h:Int)/\Hid (s=rounds WS s0 t/\s.Ok/\Fr [] V wx)) (λ_ _ _ _ _ _ _ _ i _=>64 - (intOf i).toNat)
   case atStart=>exact ⟨0,s0,by omega,rfl,by rw [HS0.out.1,HH.out]; rfl,by rw [HS0.out.1,HH.out]; rfl,by rw [HS0.out.1,HH.out]; rfl,by rw [HS0.out.1,HH.out]; rfl,by rw [HS0.out.1,HH.out]; rfl,by rw [HS0.out.1,HH.out]; rfl,by rw [HS0.out.1,HH.out]; rfl,by rw [HS0.out.1,HH.out]; rfl,rfl,HS0.out.2,Fr.refl _ _⟩
   case round =>
    obtain ⟨t,s,ht,rfl,rfl,rfl,rfl,rfl,rfl,rfl,rfl,rfl,HT⟩:=hrel
    obtain ⟨a,b',c,d,e,f,g',h⟩:=s
    by_cases hlt:t < 64
    .obtain ⟨kt,hkt⟩:=gk pF t (show t < pF.length from hlt)
     obtain ⟨wt,fw,ww,cw⟩:=sK blk 64 t hlt
     have hv:=(HV.out.fr (HVV.out.1.trans HT.out.2.2) si si).cons t kt hkt
     rw [<- (HVV.out.2.1.fr HT.out.2.2 si).cell] at cw
     obtain ⟨s1,ef,ne,ng,ch,x1,x2,x3,t1,z0,ab,ac,bc,mx,mj,t2,na,nd,q1,q2,q3,q4,q5,q6,q7,q8,q9,q10,q11,q12,q13,q14,q15,q16,q17,q18,HQ⟩:=Jz a b' c d e f g' h kt wt HT.out.2.1
     have HO:Hid (dS e/\dS a):=⟨HT.out.2.1.e,HT.out.2.1.a⟩
     have HK:=D3 (And.intro hkt (And.intro fw ww))
     clear hkt fw ww
     have htI:(t:Int) < 64:=U
     go_wp2_with fail
     refine (sJ e 6 _ _ rfl HO.out.1 U U).mono ?_
     rintro e1 w' ⟨rfl,rfl⟩
     go_wp2_with fail
     refine (sJ e 11 _ _ rfl HO.out.1 U U).mono ?_
     rintro e1 w' ⟨rfl,rfl⟩
     go_wp2_with fail
     refine (sJ e 25 _ _ rfl HO.out.1 U U).mono ?_
     rintro e1 w' ⟨rfl,rfl⟩
     go_wp2_with fail
     refine (sJ a 2 _ _ rfl HO.out.2 U U).mono ?_
     rintro e1 w' ⟨rfl,rfl⟩
     go_wp2_with fail
     refine (sJ a 13 _ _ rfl HO.out.2 U U).mono ?_
     rintro e1 w' ⟨rfl,rfl⟩
     go_wp2_with fail
     refine (sJ a 22 _ _ rfl HO.out.2 U U).mono ?_
     rintro e1 w' ⟨rfl,rfl⟩
     go_wp2_with fail
     go_quiet (fail)
     go_wp2_with fail
     clear q1 q2 q3 q4 q5 q6 q7 q8 q9 q10 q11 q12 q13 q14 q15 q16 q17 q18
     go_roundw
     case rel =>
      (repeat apply Exists.intro)
      refine ⟨?_,rfl⟩
      refine ⟨t+1,⟨na,a,b',c,nd,e,f,g'⟩,by omega,by go_num,rfl,rfl,rfl,rfl,rfl,rfl,rfl,rfl,?_⟩
      refine ⟨?_,?_,HT.out.2.2.drewN _⟩
      .rw [<- HQ.out,HT.out.1]
       show _=(rounds WS s0 t).wA (pF.getD t 0) (WS.getD t 0)
       rw [U5,HK.out.1,HWS.out,HK.out.2.1]
       rfl
      .rw [<- HQ.out]
       exact HT.out.2.1.wA _ _
     case measure=>simp [intOf]; omega
    .obtain rfl:t=64:=U
     have HF:Hid (lO H blk=List.zipWith fG H [a,b',c,d,e,f,g',h]):=by
      show lO H blk=_
      unfold lO
      rw [<- HWS.out,<- HS0.out.1,<- HT.out.1]
      rfl
     have hbw:b < w.heap.size:=HA.out.1.lt
     have hbb:b≠bv:=U
     have HZ:Hid (Fr [b] w wr/\At wr b 223 (U4 H++rest)/\At wr bv 186 (U4 H)):=by
      have h3:At wr bv 186 _:=HVV.out.2.2.fr HT.out.2.2 si
      refine ⟨(HVV.out.1.trans HT.out.2.2).mono si,(HA.out.1.fr HVV.out.1 si).fr HT.out.2.2 si,?_⟩
      rw [HH.out]
      exact h3
     obtain ⟨ww,HWW⟩:∃ ww,Hid (ww=wr):=⟨_,rfl⟩
     rw [<- HWW.out] at HZ ⊢
     clear HWW HT HVV HS0 HWS
     go_wp2_with fail
     go_loopw [197] (λi wy=>∃ k:Nat,k<=8/\i = .int .i64 k/\Hid (Fr [b] w wy/\At wy b 223 (U4 ((List.zipWith fG H [a,b',c,d,e,f,g',h]).take k++H.drop k)++rest)/\At wy bv 186 (U4 H))) (λi _=>8 - (intOf i).toNat)
     case atStart=>exact ⟨0,by omega,rfl,by rw [X5,U6,AAb]; exact HZ⟩
     case round =>
      obtain ⟨k,hk,rfl,HY⟩:=hrel
      by_cases hlt:k < 8
      .obtain ⟨y,hy⟩:=gk H k (by rw [HA.out.2.1]; exact hlt)
       obtain ⟨x,hx⟩:∃ x,[a,b',c,d,e,f,g',h][k]?=some x:=⟨_,E1 (show k < 8 from hlt)⟩
       have hix:∀ w:World,(Instr.index 186 (.agg #[.int .u32 (a:Int),.int .u32 (b':Int),.int .u32 (c:Int),.int .u32 (d:Int),.int .u32 (e:Int),.int .u32 (f:Int),.int .u32 (g':Int),.int .u32 (h:Int)]) (C (k:Int))).run Tryz.prog w = .ok (.int .u32 (x:Int)) w:=Ab (P:=Tryz.prog) 186 185 8 (U4 [a,b',c,d,e,f,g',h]) (.int .u32 (x:Int)) .i64 k p7 J (λ_=>J) hlt (uY _ _ _ hx)
       have hs:=JA H [a,b',c,d,e,f,g',h] rest k y x hy hx
       have cy:wr.cell? ⟨bv,k,none⟩=some (.int .u32 (y:Int)):=by rw [HY.out.2.2.cell]; exact uY _ _ _ hy
       have cb:wr.cell? ⟨b,k,none⟩=some (.int .u32 (y:Int)):=by rw [HY.out.2.1.cell]; exact JB H [a,b',c,d,e,f,g',h] rest k y x hy hx
       have fb:=HY.out.2.1.frozen k
       have HS:=D3 hs
       have sm:=nQ y x
       have hkI:(k:Int) < 8:=U
       clear hy hx hs
       go_wp2_with fail
       go_region_held3 (λw'=>w'.cell? ⟨bv,k,none⟩=some (.int .u32 (y:Int))) (go_keep) (first | fail)
       have HN:Hid (Fr [b] w (wr.setCell ⟨b,k,none⟩ (.int .u32 ((fG y x:Nat):Int))).drew/\At (wr.setCell ⟨b,k,none⟩ (.int .u32 ((fG y x:Nat):Int))).drew b 223 (U4 ((List.zipWith fG H [a,b',c,d,e,f,g',h]).take (k+1)++H.drop (k+1))++rest)/\At (wr.setCell ⟨b,k,none⟩ (.int .u32 ((fG y x:Nat):Int))).drew bv 186 (U4 H)):=by
        refine ⟨(HY.out.1.setCell si _).drew,?_,(HY.out.2.2.far oz _).drew⟩
        rw [<- HS.out]
        exact (HY.out.2.1.set k _).drew
       go_wp2_with fail
       go_roundw
       case rel =>
        (repeat apply Exists.intro)
        exact ⟨⟨k+1,by omega,by go_num,HN⟩,rfl⟩
       case measure=>simp [intOf]; omega
      .obtain rfl:k=8:=U
       go_wp2_with fail
       go_end0
       refine ⟨rfl,HY.out.1,?_⟩
       rw [HF.out]
       have h8:=HY.out.2.1
       rw [U2 (by simp [HA.out.2.1]),X6 (by rw [HA.out.2.1]; exact J7 _),O4] at h8
       exact h8
section
def jP(w:World)(b:Nat)(xs:List UInt8):Prop :=
 ∃ buf:List UInt8,buf.length=64 /\ buf.take (xs.length % 64)=oN xs /\ At w b 223 (U4 (gX xs)++(B8 buf++[Value.int .i64 (xs.length:Int)]))
theorem jP.fr{xs:Γ}(h:jP w b xs)(g:Fr S w w')(f:b∉S):jP w' b xs:=by
 obtain ⟨a,c,d,e⟩:=h
 exact ⟨a,c,d,e.fr g f⟩
theorem jP.lt{xs:Γ}(h:jP w b xs):b < w.heap.size:=by
 obtain ⟨a,d,e,c⟩:=h
 exact c.lt
theorem JC(w)(hv:eG w):Calls Tryz.prog 104 #[] w λe w'=>e = .returned (.pointer (qa w.heap.size))/\Fr [] w w'/\jP w' w.heap.size []:=by
 have i0:w.cell? ⟨0,0,none⟩=some (.int .u32 1779033703):=hv.init 0 _ rfl
 have i1:w.cell? ⟨0,1,none⟩=some (.int .u32 3144134277):=hv.init 1 _ rfl
 have i2:w.cell? ⟨0,2,none⟩=some (.int .u32 1013904242):=hv.init 2 _ rfl
 have i3:w.cell? ⟨0,3,none⟩=some (.int .u32 2773480762):=hv.init 3 _ rfl
 have i4:w.cell? ⟨0,4,none⟩=some (.int .u32 1359893119):=hv.init 4 _ rfl
 have i5:w.cell? ⟨0,5,none⟩=some (.int .u32 2600822924):=hv.init 5 _ rfl
 have i6:w.cell? ⟨0,6,none⟩=some (.int .u32 528734635):=hv.init 6 _ rfl
 have i7:w.cell? ⟨0,7,none⟩=some (.int .u32 1541459225):=hv.init 7 _ rfl
 clear hv
 go_enter Tryz.func104,Tryz.ntmps104
 go_wp2_with fail
 go_ret
 exact ⟨rfl,(Fr.refl _ _).alloc _,List.replicate 64 0,rfl,rfl,At.new w 223 (U4 (gX [])++(B8 (List.replicate 64 0)++[C 0]))⟩
section
variable {H:List Nat}{buf:List UInt8}{v:Value}
theorem Ah(a:H.length=8)(b:buf.length=64):(U4 H++(B8 buf++[v])).length=73:=by simp [kC,eX,a,b]
theorem JD(a:H.length=8)(b:buf.length=64):(U4 H++(B8 buf++[v]))[72]?=some v:=by
 grind [kC,eX]
theorem Rp(a:H.length=8)(b:buf.length=64)(v'):(U4 H++(B8 buf++[v])).set 72 v'=U4 H++(B8 buf++[v']):=by
 rw [V3 _ _ (by rw [kC,a]; decide),V3 _ _ (by rw [kC,a,eX,b]; decide),kC,a,eX,b]
 rfl
theorem Rq(a:H.length=8)(i u)(h:(B8 buf)[i]?=some u):(U4 H++(B8 buf++[v]))[8+i]?=some u:=by
 grind [kC]
theorem Cm(b:H.length=8)(c:buf.length=64)(u)(cs:Γ)(e:u+cs.length<=64):
  (U4 H++(B8 buf++[v])).take (8+u)++B8 cs++(U4 H++(B8 buf++[v])).drop (8+u+(B8 cs).length)=U4 H++(B8 (buf.take u++cs++buf.drop (u+cs.length))++[v]):=by
 have a:(U4 H).length=8:=by rw [kC,b]
 have d:(B8 buf).length=64:=by rw [eX,c]
 rw [List.take_append,List.drop_append,eX,a,show 8+u - 8=u by omega,show 8+u+cs.length - 8=u+cs.length by omega,U2 U,X6 U,U6,
  Z5 U,p8 U,nO,nO]
 simp [B8,List.map_drop]
end
theorem JE(b u:Nat)(e:u < 64)(w):(Instr.sliceAt 221 (.pointer (some ⟨b,8,none⟩)) (some (C (u:Int))) none none).run Tryz.prog w = .ok (.slice (some ⟨b,8+u,none⟩) (64 - u) (64 - u)) w:=by
 have c:Tryz.prog.arrayLen 221=64:=by kernel_rfl
 have d:(sizeOf (Tryz.prog.elem 221)).run Tryz.prog w = .ok 1 w:=by kernel_rfl
 have a:¬ (64=u):=U
 rw [run_sliceAt_array_l w 221 _ J .i64 u U (by omega),d,c]
 simp [slicedAt,a,kB]
theorem ES(b w):(Instr.sliceAt 221 (.pointer (some ⟨b,8,none⟩)) none none none).run Tryz.prog w = .ok (.slice (some ⟨b,8,none⟩) 64 64) w:=by
 have a:Tryz.prog.arrayLen 221=64:=by kernel_rfl
 have c:(sizeOf (Tryz.prog.elem 221)).run Tryz.prog w = .ok 1 w:=by kernel_rfl
 rw [run_sliceAt_array_all w 221 _ J,c,a]
 simp [slicedAt,kB]
theorem Cn(g o m cap k)(c:k<=m)(d:m<=cap):∃ o',(k < m->o'=o+k)/\∀ w:Λ,(Instr.slice 35 (.slice (some ⟨g,o,none⟩) m cap) (some (C (k:Int))) none none).run Tryz.prog w = .ok (.slice (some ⟨g,o',none⟩) (m - k) (cap - k)) w:=by
 have b:∀ w,(sizeOf (Tryz.prog.elem 35)).run Tryz.prog w = .ok 1 w:=λw=>by kernel_rfl
 by_cases a:cap=k
 .refine ⟨o,U,λw=>?_⟩
  rw [run_slice_l w 35 _ m cap J .i64 k U U,b]
  simp [sliced,a]
 .refine ⟨o+k,U,λw=>?_⟩
  rw [run_slice_l w 35 _ m cap J .i64 k U U,b]
  simp [sliced,a,kB]
theorem aI.Iv{o k:Nat}(h:aI w (some ⟨g,o,none⟩) (B8 zs))(c:k < zs.length->o'=o+k):aI w (some ⟨g,o',none⟩) (B8 (zs.drop k)):=by
 intro i u a
 have b:=(C4.1 a).1
 rw [eX,Q7] at b
 have e:(B8 (zs.drop k))[i]?=(B8 zs)[k+i]?:=by simp [B8,zg]
 rw [e] at a
 obtain U:=h _ u a
 grind
theorem aI.DV{k:Nat}(h:aI w A (B8 zs)):aI w A (B8 (zs.take k)):=by
 intro i u a
 refine h i u ?_
 have b:=(C4.1 a).1
 rw [eX,I8] at b
 rw [<- a]
 simp only [B8]
 grind
theorem aI.some(h:aI w A (B8 zs))(a:0 < zs.length):∃ g o,A=some ⟨g,o,none⟩/\g < w.heap.size:=by
 obtain ⟨b,o,c,d,_⟩:=h 0 _ (uN zs 0 _ (E1 a))
 grind
theorem Rr(h:aI w A (B8 ys))(c:Fr S w w')(b:0 < ys.length->∀ g o,A=some ⟨g,o,none⟩->g∉S):aI w' A (B8 ys):=by
 rcases l6 ys.length with a | a
 .obtain rfl:=L1 a
  exact λi x d=>by simp [B8] at d
 .exact h.fr c zg
structure tW (w wr:World) (b:Nat) (all pre zs:List UInt8) (A:Option Addr) (cap:Nat):Prop where
 fr:Fr [b] w wr
 eq:pre++zs=all
 mod:pre.length % 64=0
 cap:zs.length <= cap
 row:aI wr A (B8 zs)
 far:0 < zs.length -> ∀ g o,A=some ⟨g,o,none⟩ -> g≠b
 st:∃ buf:List UInt8,buf.length=64 /\ At wr b 223 (U4 (gX pre)++(B8 buf++[Value.int .i64 (all.length:Int)]))
theorem JF(pre:Γ)(h:pre.length % 64=0):oN pre=[]:=L1 (by rw [IM,h])
theorem tW.step{o cap:Nat}{all pre:Γ}(h:tW w wr b all pre zs (some ⟨g,o,none⟩) cap)(j:64<=zs.length)(d:Fr [b] wr w1)(n:64 < zs.length->o'=o+64)(l:buf.length=64)(k:At w1 b 223 (U4 (lO (gX pre) (zs.take 64))++(B8 buf++[C (all.length:Int)]))):tW w w1 b all (pre++zs.take 64) (zs.drop 64) (some ⟨g,o',none⟩) (cap - 64):=by
 have m:(zs.take 64).length=64:=by grind
 have a:=h.far U g o I
 refine ⟨h.fr.trans d,by rw [D1,S6]; exact h.eq,by have:=h.mod; rw [C3,m]; omega,by have:=h.cap; rw [Q7]; omega,?_,λ_ i p e=>?_,buf,l,?_⟩
 .refine (aI.Iv (h.row.fr d λi p e=>?_) n)
  injection e with e
  injection e with c f
  subst c
  simpa using a
 .injection e with e
  injection e with c f
  subst c
  exact a
 .have q:=h.mod
  rw [(IQ pre _ U).1,JF pre h.mod,U6]
  omega
theorem jP.done{all pre:Γ}(c:pre++zs=all)(d:pre.length % 64=0)(f:zs.length < 64)(e:buf.length=64)(a:At w b 223 (U4 (gX pre)++(B8 (zs++buf.drop zs.length)++[C (all.length:Int)]))):jP w b all:=by
 subst c
 have h:=IP pre zs U
 refine ⟨zs++buf.drop zs.length,by rw [C3,Q7]; omega,?_,by rw [h.1]; exact a⟩
 rw [h.2,JF pre d,U6,C3,show (pre.length+zs.length) % 64=zs.length by omega,AB4]
theorem jP.small{xs:Γ}(e:xs.length % 64+ys.length < 64)(f:buf.length=64)(d:buf.take (xs.length % 64)=oN xs)(a:At w b 223 (U4 (gX xs)++(B8 (buf.take (xs.length % 64)++ys++buf.drop (xs.length % 64+ys.length))++[C ((xs++ys).length:Int)]))):jP w b (xs++ys):=by
 have h:=IP xs ys e
 have c:(buf.take (xs.length % 64)).length=xs.length % 64:=by rw [I8]; omega
 refine ⟨_,?_,?_,by rw [h.1]; exact a⟩
 .simp only [C3,c,Q7]
  omega
 .rw [h.2,<- d,C3,show (xs.length+ys.length) % 64=xs.length % 64+ys.length by omega,Z5 (by rw [C3,c]; omega),U2 (by rw [C3,c]; omega)]
theorem Rs(h:fn.results = #[])(a P w):(results fn a).run P w = .ok (.tuple #[]) w:=by simp [results,h]
theorem JG(b xs ys A cap w)(hv:eG w)(h2:2<=b)(hs:jP w b xs)(hrow:aI w A (B8 ys))(hcap:ys.length<=cap)(hfar:0 < ys.length->∀ g o,A=some ⟨g,o,none⟩->g≠b)(hlen:xs.length+ys.length<=1099511627776):
  Calls Tryz.prog 105 #[Value.pointer (qa b),.slice A ys.length cap] w λe w'=>e = .returned (.tuple #[])/\Fr [b] w w'/\jP w' b (xs++ys):=by
 obtain ⟨buf,hb1,hb2,hat⟩:=hs
 have hw8:=(lE xs).1
 have c72:w.cell? ⟨b,72,none⟩=some (Value.int .i64 (xs.length:Int)):=by rw [hat.cell]; exact JD hw8 hb1
 have f72:=hat.frozen 72
 obtain ⟨u,hu⟩:∃ u,u=xs.length % 64:=⟨_,rfl⟩
 have hu64:u < 64:=U
 have eu:(xs.length:Int) % 64=(u:Int):=U
 obtain ⟨n,hn⟩:∃ n,n=xs.length:=⟨_,rfl⟩
 obtain ⟨m,hm⟩:∃ m,m=ys.length:=⟨_,rfl⟩
 obtain ⟨W1,HWE⟩:∃ W1,Hid (W1=w.setCell ⟨b,72,none⟩ (Value.int .i64 ((n:Int)+(m:Int)))):=⟨_,rfl⟩
 have e2:((n:Int)+(m:Int))=((xs++ys).length:Int):=by rw [C3,hn,hm]; omega
 have HA:Hid (eG w/\buf.length=64/\buf.take u=oN xs/\At W1 b 223 (U4 (gX xs)++(B8 buf++[C ((xs++ys).length:Int)]))/\aI W1 A (B8 ys)/\(0 < ys.length->∀ g o,A=some ⟨g,o,none⟩->g≠b)/\Fr [b] w W1/\ys.length<=cap):=by
  have hf:Fr [b] w W1:=by rw [HWE.out]; exact (Fr.refl _ _).setCell si _
  refine ⟨hv,hb1,by rw [hu]; exact hb2,?_,Rr hrow hf (λh g o e=>by have:=hfar h g o e; simpa using this),hfar,hf,hcap⟩
  rw [HWE.out,<- e2]
  have:=hat.set 72 (Value.int .i64 ((n:Int)+(m:Int)))
  rw [Rp hw8 hb1] at this
  exact this
 have HN:Hid (n=xs.length/\m=ys.length/\u=xs.length % 64):=⟨hn,hm,hu⟩
 rw [<- hn] at c72 eu hlen
 rw [<- hm] at hlen hcap ⊢
 clear hv hb1 hb2 hw8 hat hrow hfar hn hm hu e2
 by_cases h0:u=0
 .have hposI:¬ (0:Int) < (u:Int):=U
  have h00:¬ 0 < u:=U
  have HL0:∃ (pre zs:Γ) (A':Δ) (cap' r:Nat),Value.slice A m cap = .slice A' r cap'/\Hid (r=zs.length/\tW w W1 b (xs++ys) pre zs A' cap') :=
   ⟨xs,ys,A,cap,m,rfl,HN.out.2.1,HA.out.2.2.2.2.2.2.1,rfl,by rw [<- HN.out.2.2]; exact h0,HA.out.2.2.2.2.2.2.2,HA.out.2.2.2.2.1,HA.out.2.2.2.2.2.1,buf,HA.out.2.1,HA.out.2.2.2.1⟩
  clear h0
  go_enter Tryz.func105,Tryz.ntmps105
  go_wp2_with fail
  rw [<- HWE.out]
  .clear c72 f72 eu
   go_loopw [1] (λx wx=>∃ (pre zs:Γ) (A':Δ) (cap' r:Nat),x = .slice A' r cap'/\Hid (r=zs.length/\tW w wx b (xs++ys) pre zs A' cap')) (λx _=>match x with | .slice _ k _=>k | _=>0)
   case atStart=>exact HL0
   case round =>
    obtain ⟨pre,zs,A',cap',r,rfl,HR⟩:=hrel
    obtain ⟨buf',hb',hat'⟩:=HR.out.2.st
    have HB':=D3 (And.intro hb' hat')
    clear hb' hat'
    have hrc:r<=cap':=by rw [HR.out.1]; exact HR.out.2.cap
    by_cases h64:64<=r
    .obtain ⟨g',o',rfl,hg'⟩:=HR.out.2.row.some (by rw [<- HR.out.1]; omega)
     obtain ⟨o2,ho2,hsl⟩:=Cn g' o' r cap' 64 h64 hrc
     have hslI:∀ w:World,(Instr.slice 35 (.slice (some ⟨g',o',none⟩) r cap') (some (C 64)) none none).run Tryz.prog w = .ok (.slice (some ⟨g',o2,none⟩) (r - 64) (cap' - 64)) w:=hsl
     have HO2:=D3 ho2
     clear hsl ho2
     have h64I:(64:Int)<=(r:Int):=U
     have h64c:(64:Int)<=(cap':Int):=U
     have HP:=D3 (ER b g' o' cap' (gX pre) (B8 buf'++[C ((xs++ys).length:Int)]) (zs.take 64) wr (HA.out.1.fr HR.out.2.fr (by simp; omega) (by simp; omega)) HB'.out.2 (lE pre).1 (lE pre).2 (by rw [I8,<- HR.out.1]; omega) U HR.out.2.row.DV)
     go_wp2_with fail
     refine HP.out.mono ?_
     rintro e w1 ⟨rfl,hf1,ha1⟩
     have HN:Hid (r - 64=(zs.drop 64).length/\tW w w1 b (xs++ys) (pre++zs.take 64) (zs.drop 64) (some ⟨g',o2,none⟩) (cap' - 64)):=⟨by rw [Q7,<- HR.out.1],HR.out.2.step (by rw [<- HR.out.1]; exact h64) hf1 (by rw [<- HR.out.1]; exact HO2.out) HB'.out.1 ha1⟩
     clear hf1 ha1 HP HO2 HR HB'
     go_wp2_with fail
     go_roundw
     case rel =>
      first
       | exact ⟨pre++zs.take 64,zs.drop 64,_,_,_,rfl,HN⟩
       | ((repeat apply Exists.intro); exact ⟨⟨pre++zs.take 64,zs.drop 64,_,_,_,rfl,HN⟩,rfl⟩)
     case measure=>show r - 64 < r; omega
    .have hslA:=ES b
     have h64I:(r:Int) < 64:=U
     have h64n:r < 64:=U
     obtain ⟨L,HL⟩:∃ L,Hid (L=U4 (gX pre)++(B8 buf'++[C ((xs++ys).length:Int)])):=⟨_,rfl⟩
     obtain ⟨L2,HL2⟩:∃ L2,Hid (L2=U4 (gX pre)++(B8 (zs++buf'.drop zs.length)++[C ((xs++ys).length:Int)])):=⟨_,rfl⟩
     obtain ⟨CS,HCS⟩:∃ CS,Hid (CS=B8 zs):=⟨_,rfl⟩
     go_wp2_with (refine BO (P:=Tryz.prog) (dT:=35) (sT:=35) (elem:=5) Y1 (by kernel_rfl) rfl _ _ rfl b 8 64 64 A' r cap' 223 L CS rfl rfl ?hat2 ?hn2 ?hsrc2 ?hfit2 ?h12 r ?hnn2 L2 ?hl2 ?_)
     case hat2=>rw [HL.out]; exact HB'.out.2
     case hl2 =>
      have h3:=Cm (H:=gX pre) (buf:=buf') (v:=Value.int .i64 ((xs++ys).length:Int)) (lE pre).1 HB'.out.1 0 zs (by rw [<- HR.out.1]; omega)
      rw [X5,U6,K7,AB7,<- HL.out,<- HL2.out,<- HCS.out] at h3
      rw [<- h3,D1]
     case hn2=>rw [HCS.out,eX,<- HR.out.1]; exact (Y0 (by omega)).symm
     case hsrc2=>rw [HCS.out]; exact eN.gJ HR.out.2.row
     case hfit2=>rw [HCS.out,HL.out,Ah (lE pre).1 HB'.out.1,eX,<- HR.out.1]; omega
     case h12=>rw [HCS.out]; exact iP _
     case hnn2=>rw [HCS.out,eX,<- HR.out.1]
     intro w2 hf2 ha2
     have HE:Hid (Fr [b] w w2/\jP w2 b (xs++ys)):=by
      refine ⟨HR.out.2.fr.trans hf2,?_⟩
      rw [HL2.out] at ha2
      exact jP.done HR.out.2.eq HR.out.2.mod (by rw [<- HR.out.1]; exact h64n) HB'.out.1 ha2
     clear hf2 ha2
     go_wp2_with fail
     go_end0
     exact ⟨rfl,HE.out.1,HE.out.2⟩
 .have hpos:0 < u:=U
  have hposI:(0:Int) < (u:Int):=U
  by_cases hs:u+m < 64
  .have hsI:(u:Int)+(m:Int) < 64:=U
   have hsl:=JE b u hu64
   have hsx:∃ A2 c2,∀ w:World,(Instr.slice 35 (.slice A m cap) (some (C (m:Int))) none none).run Tryz.prog w = .ok (.slice A2 0 c2) w:=by
    by_cases hm0:m=0
    .subst hm0
     refine ⟨if cap=0 then A else A.map (·.add (0*1)),cap,λw=>?_⟩
     rw [run_slice_l w 35 A 0 cap J .i64 ((0:Nat):Int) U U,show (sizeOf (Tryz.prog.elem 35)).run Tryz.prog w = .ok 1 w by kernel_rfl]
     rfl
    .obtain ⟨g,o,hA,_⟩:=HA.out.2.2.2.2.1.some (by rw [<- HN.out.2.1]; omega)
     obtain ⟨o',_,h⟩:=Cn g o m cap m (J7 _) hcap
     refine ⟨some ⟨g,o',none⟩,cap - m,λw=>?_⟩
     rw [hA,h w,W6]
   obtain ⟨A2,c2,hsx⟩:=hsx
   obtain ⟨L,HL⟩:∃ L,Hid (L=U4 (gX xs)++(B8 buf++[C ((xs++ys).length:Int)])):=⟨_,rfl⟩
   obtain ⟨L2,HL2⟩:∃ L2,Hid (L2=U4 (gX xs)++(B8 (buf.take u++ys++buf.drop (u+(ys).length))++[C ((xs++ys).length:Int)])):=⟨_,rfl⟩
   obtain ⟨CS,HCS⟩:∃ CS,Hid (CS=B8 (ys)):=⟨_,rfl⟩
   go_enter Tryz.func105,Tryz.ntmps105
   go_wp2_with (rw [<- HWE.out]; refine BO (P:=Tryz.prog) (dT:=35) (sT:=35) (elem:=5) Y1 (by kernel_rfl) rfl _ _ rfl b (8+u) (64 - u) (64 - u) A m cap 223 L CS rfl rfl ?hat ?hn ?hsrc ?hfit ?h1 m ?hnn L2 ?hl2 ?_)
   case hat=>rw [HL.out]; exact HA.out.2.2.2.1
   case hl2 =>
    have h3:=Cm (H:=gX xs) (buf:=buf) (v:=Value.int .i64 ((xs++ys).length:Int)) (lE xs).1 HA.out.2.1 u ys (by rw [<- HN.out.2.1]; omega)
    rw [<- HL.out,<- HL2.out,<- HCS.out] at h3
    rw [<- h3,D1]
   case hn=>rw [HCS.out,eX,<- HN.out.2.1]; exact (Y0 (by omega)).symm
   case hsrc=>rw [HCS.out]; exact eN.gJ HA.out.2.2.2.2.1
   case hfit=>rw [HCS.out,HL.out,Ah (lE xs).1 HA.out.2.1,eX,<- HN.out.2.1]; omega
   case h1=>rw [HCS.out]; exact iP _
   case hnn=>rw [HCS.out,eX,<- HN.out.2.1]
   intro w2 hf2 ha2
   have HE:Hid (Fr [b] w w2/\jP w2 b (xs++ys)):=by
    refine ⟨HA.out.2.2.2.2.2.2.1.trans hf2,?_⟩
    rw [HL2.out,HN.out.2.2] at ha2
    exact jP.small (by rw [<- HN.out.2.2,<- HN.out.2.1]; exact hs) HA.out.2.1 (by rw [<- HN.out.2.2]; exact HA.out.2.2.1) ha2
   clear hf2 ha2
   go_wp2_with fail
   refine AEf (Rs rfl _ _ _) rfl ?_
   exact ⟨rfl,HE.out.1,HE.out.2⟩
  .obtain ⟨k,hk⟩:∃ k,k+u=64:=⟨64 - u,U⟩
   have hkl:(ys.take k).length=k:=by rw [I8,<- HN.out.2.1]; omega
   have HK:Hid ((ys.take k).length=k):=hkl
   clear hkl
   have hkm:k<=m:=U
   have hsl:=JE b u hu64
   have hslA:=ES b
   obtain ⟨g,o,rfl,hg⟩:=HA.out.2.2.2.2.1.some (by rw [<- HN.out.2.1]; omega)
   obtain ⟨o',ho',hsx⟩:=Cn g o m cap k hkm hcap
   have HO:=D3 ho'
   clear ho'
   have hge:¬ (u:Int)+(k:Int) < 64:=U
   obtain ⟨L,HL⟩:∃ L,Hid (L=U4 (gX xs)++(B8 buf++[C ((xs++ys).length:Int)])):=⟨_,rfl⟩
   obtain ⟨L2,HL2⟩:∃ L2,Hid (L2=U4 (gX xs)++(B8 (buf.take u++ys.take k++buf.drop (u+(ys.take k).length))++[C ((xs++ys).length:Int)])):=⟨_,rfl⟩
   obtain ⟨CS,HCS⟩:∃ CS,Hid (CS=B8 (ys.take k)):=⟨_,rfl⟩
   go_enter Tryz.func105,Tryz.ntmps105
   go_wp2_with (rw [<- HWE.out]; refine BO (P:=Tryz.prog) (dT:=35) (sT:=35) (elem:=5) Y1 (by kernel_rfl) rfl _ _ rfl b (8+u) (64 - u) (64 - u) (some ⟨g,o,none⟩) m cap 223 L CS rfl rfl ?hat ?hn ?hsrc ?hfit ?h1 k ?hnn L2 ?hl2 ?_)
   case hat=>rw [HL.out]; exact HA.out.2.2.2.1
   case hl2 =>
    have h3:=Cm (H:=gX xs) (buf:=buf) (v:=Value.int .i64 ((xs++ys).length:Int)) (lE xs).1 HA.out.2.1 u (ys.take k) (by rw [HK.out]; omega)
    rw [<- HL.out,<- HL2.out,<- HCS.out] at h3
    rw [<- h3,D1]
   case hn=>rw [HCS.out,eX,HK.out]; exact ((Nat.min_eq_right (by omega)).trans (by omega)).symm
   case hsrc=>rw [HCS.out]; exact eN.gJ HA.out.2.2.2.2.1.DV
   case hfit=>rw [HCS.out,HL.out,Ah (lE xs).1 HA.out.2.1,eX,HK.out]; omega
   case h1=>rw [HCS.out]; exact iP _
   case hnn=>rw [HCS.out,eX,HK.out]
   intro w2 hf2 ha2
   have HE:Hid (Fr [b] W1 w2/\(buf.take u++ys.take k).length=64/\At w2 b 223 (U4 (gX xs)++(B8 (buf.take u++ys.take k)++[C ((xs++ys).length:Int)]))):=by
    refine ⟨hf2,by rw [C3,I8,HA.out.2.1,HK.out]; omega,?_⟩
    rw [HL2.out,X6 (by rw [HA.out.2.1,HK.out]; omega),O4] at ha2
    exact ha2
   clear hf2 ha2
   have HP:=D3 (ER b b 8 64 (gX xs) (B8 (buf.take u++ys.take k)++[C ((xs++ys).length:Int)]) (buf.take u++ys.take k) w2 (HA.out.1.fr (HA.out.2.2.2.2.2.2.1.trans HE.out.1) (by simp; omega) (by simp; omega)) HE.out.2.2 (lE xs).1 (lE xs).2 HE.out.2.1 U
    (λi v hv=>⟨b,8,rfl,HE.out.2.2.lt,by rw [HE.out.2.2.cell]; exact Rq (lE xs).1 i v hv⟩))
   go_wp2_with fail
   refine HP.out.mono ?_
   rintro e w3 ⟨rfl,hf3,ha3⟩
   have HL0:∃ (pre zs:Γ) (A':Δ) (cap' r:Nat),Value.slice (some ⟨g,o',none⟩) (m - k) (cap - k) = .slice A' r cap'/\Hid (r=zs.length/\tW w w3 b (xs++ys) pre zs A' cap'):=by
    have hgb:=HA.out.2.2.2.2.2.1 (by have:=HN.out.2.1; omega) g o rfl
    refine ⟨xs++ys.take k,ys.drop k,_,_,_,rfl,by rw [Q7,<- HN.out.2.1],(HA.out.2.2.2.2.2.2.1.trans HE.out.1).trans hf3,by rw [D1,S6],by rw [C3,HK.out]; have:=HN.out.2.2; omega,by rw [Q7]; have:=HA.out.2.2.2.2.2.2.2; omega,?_,λ_ g' o1 e=>?_,_,HE.out.2.1,?_⟩
    .refine aI.Iv (HA.out.2.2.2.2.1.fr (HE.out.1.trans hf3) λg' o1 e=>?_) (by rw [<- HN.out.2.1]; exact HO.out)
     injection e with e
     injection e with e1 e2
     subst e1
     simpa using hgb
    .injection e with e
     injection e with e1 e2
     subst e1
     exact hgb
    .rw [(IQ xs (ys.take k) (by rw [HK.out,<- HN.out.2.2]; omega)).1,<- HA.out.2.2.1]
     exact ha3
   clear hf3 ha3 HP HE hsl hslA hsx
   go_wp2_with fail
   go_loopw [1] (λx wx=>∃ (pre zs:Γ) (A':Δ) (cap' r:Nat),x = .slice A' r cap'/\Hid (r=zs.length/\tW w wx b (xs++ys) pre zs A' cap')) (λx _=>match x with | .slice _ k _=>k | _=>0)
   case atStart=>exact HL0
   case round =>
    obtain ⟨pre,zs,A',cap',r,rfl,HR⟩:=hrel
    obtain ⟨buf',hb',hat'⟩:=HR.out.2.st
    have HB':=D3 (And.intro hb' hat')
    clear hb' hat'
    have hrc:r<=cap':=by rw [HR.out.1]; exact HR.out.2.cap
    by_cases h64:64<=r
    .obtain ⟨g',o',rfl,hg'⟩:=HR.out.2.row.some (by rw [<- HR.out.1]; omega)
     obtain ⟨o2,ho2,hsl⟩:=Cn g' o' r cap' 64 h64 hrc
     have hslI:∀ w:World,(Instr.slice 35 (.slice (some ⟨g',o',none⟩) r cap') (some (C 64)) none none).run Tryz.prog w = .ok (.slice (some ⟨g',o2,none⟩) (r - 64) (cap' - 64)) w:=hsl
     have HO2:=D3 ho2
     clear hsl ho2
     have h64I:(64:Int)<=(r:Int):=U
     have h64c:(64:Int)<=(cap':Int):=U
     have HP:=D3 (ER b g' o' cap' (gX pre) (B8 buf'++[C ((xs++ys).length:Int)]) (zs.take 64) wr (HA.out.1.fr HR.out.2.fr (by simp; omega) (by simp; omega)) HB'.out.2 (lE pre).1 (lE pre).2 (by rw [I8,<- HR.out.1]; omega) U HR.out.2.row.DV)
     go_wp2_with fail
     refine HP.out.mono ?_
     rintro e w1 ⟨rfl,hf1,ha1⟩
     have HN:Hid (r - 64=(zs.drop 64).length/\tW w w1 b (xs++ys) (pre++zs.take 64) (zs.drop 64) (some ⟨g',o2,none⟩) (cap' - 64)):=⟨by rw [Q7,<- HR.out.1],HR.out.2.step (by rw [<- HR.out.1]; exact h64) hf1 (by rw [<- HR.out.1]; exact HO2.out) HB'.out.1 ha1⟩
     clear hf1 ha1 HP HO2 HR HB'
     go_wp2_with fail
     go_roundw
     case rel =>
      first
       | exact ⟨pre++zs.take 64,zs.drop 64,_,_,_,rfl,HN⟩
       | ((repeat apply Exists.intro); exact ⟨⟨pre++zs.take 64,zs.drop 64,_,_,_,rfl,HN⟩,rfl⟩)
     case measure=>show r - 64 < r; omega
    .have hslA:=ES b
     have h64I:(r:Int) < 64:=U
     have h64n:r < 64:=U
     obtain ⟨L,HL⟩:∃ L,Hid (L=U4 (gX pre)++(B8 buf'++[C ((xs++ys).length:Int)])):=⟨_,rfl⟩
     obtain ⟨L2,HL2⟩:∃ L2,Hid (L2=U4 (gX pre)++(B8 (zs++buf'.drop zs.length)++[C ((xs++ys).length:Int)])):=⟨_,rfl⟩
     obtain ⟨CS,HCS⟩:∃ CS,Hid (CS=B8 zs):=⟨_,rfl⟩
     go_wp2_with (refine BO (P:=Tryz.prog) (dT:=35) (sT:=35) (elem:=5) Y1 (by kernel_rfl) rfl _ _ rfl b 8 64 64 A' r cap' 223 L CS rfl rfl ?hat2 ?hn2 ?hsrc2 ?hfit2 ?h12 r ?hnn2 L2 ?hl2 ?_)
     case hat2=>rw [HL.out]; exact HB'.out.2
     case hl2 =>
      have h3:=Cm (H:=gX pre) (buf:=buf') (v:=Value.int .i64 ((xs++ys).length:Int)) (lE pre).1 HB'.out.1 0 zs (by rw [<- HR.out.1]; omega)
      rw [X5,U6,K7,AB7,<- HL.out,<- HL2.out,<- HCS.out] at h3
      rw [<- h3,D1]
     case hn2=>rw [HCS.out,eX,<- HR.out.1]; exact (Y0 (by omega)).symm
     case hsrc2=>rw [HCS.out]; exact eN.gJ HR.out.2.row
     case hfit2=>rw [HCS.out,HL.out,Ah (lE pre).1 HB'.out.1,eX,<- HR.out.1]; omega
     case h12=>rw [HCS.out]; exact iP _
     case hnn2=>rw [HCS.out,eX,<- HR.out.1]
     intro w2 hf2 ha2
     have HE:Hid (Fr [b] w w2/\jP w2 b (xs++ys)):=by
      refine ⟨HR.out.2.fr.trans hf2,?_⟩
      rw [HL2.out] at ha2
      exact jP.done HR.out.2.eq HR.out.2.mod (by rw [<- HR.out.1]; exact h64n) HB'.out.1 ha2
     clear hf2 ha2
     go_wp2_with fail
     go_end0
     exact ⟨rfl,HE.out.1,HE.out.2⟩
theorem JH(b xs a A cap w)(l:eG w)(j:2<=b)(k:jP w b xs)(f:aI w A (B8 a))(c:a.length<=cap)(h:∀ g o,A=some ⟨g,o,none⟩->g≠b)(d:xs.length+a.length<=1099511627776):
  Θ 105 #[Value.pointer (qa b),.slice A a.length cap] w λe i=>e = .returned (.tuple #[])/\Fr [b] w i/\jP i b (xs++a):=JG b xs a A cap w l j k f c zg d
end
theorem qG(m k:Nat):IntKind.u8.wrap ((m:Int) / 2 ^ (8*k))=((fV m k).toNat:Int):=by
 have e:(m:Int) / 2 ^ (8*k)=((m / 2 ^ (8*k):Nat)):=zg
 rw [e,AG7]
 unfold fV
 simp
theorem JI(b xs w)(hv:eG w)(hs:jP w b xs)(hlen:xs.length<=549755813888):
  Calls Tryz.prog 106 #[Value.pointer (qa b)] w λe w'=>e = .returned (.string (bL (fP xs)))/\Fr [] w w':=by
 obtain ⟨buf,hb1,hb2,hat⟩:=hs
 have hw8:=(lE xs).1
 obtain ⟨n,hn⟩:∃ n,n=xs.length:=⟨_,rfl⟩
 rw [<- hn] at hlen hat
 obtain ⟨L,HL⟩:∃ L,Hid (L=U4 (gX xs)++(B8 buf++[C (n:Int)])):=⟨_,rfl⟩
 have HLL:Hid (L.length=73):=by show L.length=73; rw [HL.out]; exact Ah hw8 hb1
 have HL1:Hid (∀ v∈L,v.oneCell'=true):=by
  show ∀ v∈L,v.oneCell'=true
  rw [HL.out]
  intro v hv
  simp only [P7,U4,B8,Y9,G2] at hv
  rcases hv with ⟨_,_,rfl⟩ | ⟨_,_,rfl⟩ | rfl <;> rfl
 have HA:Hid (eG w/\buf.length=64/\buf.take (n % 64)=oN xs/\At w b 223 L/\n=xs.length):=⟨hv,hb1,by rw [hn]; exact hb2,by rw [HL.out]; exact hat,hn⟩
 have c72:w.cell? ⟨b,72,none⟩=some (Value.int .i64 (n:Int)):=by rw [hat.cell]; exact JD hw8 hb1
 have hbw:=hat.lt
 clear hv hb1 hb2 hat hw8 hn
 go_enter Tryz.func106,Tryz.ntmps106
 go_wp2_with (first
  | (refine qT rfl 223 (.tmp 11) rfl b 0 rfl L _ ?hc Tryz.underlying223 rfl ?hi ?_)
  | (refine rV rfl 223 (.tmp 3) (.tmp 12) rfl rfl 223 _ L rfl ?hz ?hi2 ?h1 ?_))
 case hc=>exact λj v hj=>by rw [K7,HA.out.2.2.2.1.cell]; exact hj
 case hi=>rw [HLL.out]; kernel_rfl
 case hz=>rw [HLL.out]; rfl
 case hi2=>rw [HLL.out]; kernel_rfl
 case h1=>exact HL1.out
 intro w1 hf1 ha1
 obtain ⟨bp,hbp⟩:∃ bp,bp=w.heap.size:=⟨_,rfl⟩
 rw [<- hbp] at ha1 ⊢
 have HP:Hid (Fr [] w w1/\At w1 bp 223 L/\bp=w.heap.size):=⟨hf1,ha1,hbp⟩
 have c72':w1.cell? ⟨b,72,none⟩=some (Value.int .i64 (n:Int)):=by rw [hf1.cell (p:=⟨b,72,none⟩) hbw si]; exact c72
 have hbp1:bp < w1.heap.size:=ha1.lt
 clear hf1 ha1 hbp c72
 obtain ⟨z,hz⟩:∃ z,z=(119 - n % 64) % 64:=⟨_,rfl⟩
 have hz64:z < 64:=U
 have hzz:(n+1+z) % 64=56:=U
 have hzu:∀ j,j < z->(n+1+j) % 64≠56:=U
 have HZ:=D3 (And.intro hz (And.intro hzz hzu))
 clear hz hzz hzu
 go_wp2_with fail
 go_loopw [4] (λv wx=>∃ (j:Nat) (A':Δ) (c':Nat) (cs:Γ),j<=z/\v = .slice A' cs.length c'/\cs.length<=j+1/\j+1<=cs.length/\Hid (cs=128::List.replicate j 0)/\Hid (BR w1 wx v cs)) (λv _=>match v with | .slice _ k _=>65 - k | _=>0)
 case atStart=>exact ⟨0,_,_,[128],by omega,rfl,by simp,by simp,rfl,BR.lit w1 [128] (by simp [maxLen])⟩
 case round =>
  obtain ⟨j,A',c',cs,hj,rfl,hcl,hcl',HC,HB⟩:=hrel
  have hsz:=HB.out.size
  have c72r:wr.cell? ⟨b,72,none⟩=some (Value.int .i64 (n:Int)):=by rw [HB.out.fr.cell (p:=⟨b,72,none⟩) (l0 hbw HP.out.1.size) si]; exact c72'
  obtain ⟨r,hr⟩:∃ r,r=(n+cs.length) % 64:=⟨_,rfl⟩
  have er:((n:Int)+(cs.length:Int)) % 64=(r:Int):=U
  by_cases hlt:j < z
  .have hr56:r≠56:=by have:=HZ.out.2.2 j hlt; rw [hr]; intro e; apply this; omega
   have hrb:((r:Int) != 56)=true:=by simp; omega
   clear hr hr56
   go_wp2_with (at_builtin; refine oL gS rfl (.tmp 23) (.tmp 24) rfl w1.heap.size _ _ (B8 cs) (.int .u8 0) rfl HB.out.own rfl rfl (by omega) (by omega) 5 ?_; intro v2 w2 hown2 hg2 hb2; obtain ⟨A3,c3,cs3,HC3,hc3,rfl,HB3⟩:=BR.push (xs:=[0]) HB.out hown2 hg2; clear hown2 hg2 hb2)
   have h3:cs3.length=cs.length+1:=by rw [HC3.out]; simp
   have HC4:Hid (cs3=128::List.replicate (j+1) 0):=by
    show cs3=_
    rw [HC3.out,HC.out,AD2,Z2]
   go_roundw
   case rel=>exact ⟨j+1,A3,c3,cs3,by omega,rfl,by omega,by omega,HC4,HB3⟩
   case measure=>show 65 - cs3.length < 65 - cs.length; omega
  .obtain rfl:j=z:=U
   have hr56:r=56:=by have:=HZ.out.2.1; rw [hr]; rw [<- this]; congr 1; omega
   have hrb:((r:Int) != 56)=false:=by rw [hr56]; rfl
   clear hr hr56
   obtain ⟨m8,hm8⟩:∃ m8,m8=n*8:=⟨_,rfl⟩
   have em8:IntKind.u64.wrap ((n:Int)*8)=(m8:Int):=by rw [X0,hm8]; omega
   have en:IntKind.u64.wrap (n:Int)=(n:Int):=by rw [X0]; omega
   have HM8:=D3 hm8
   have hm8b:m8<=4398046511104:=U
   clear hm8
   go_wp2_with fail
   clear em8 en er hrb
   go_loopw [4,6] (λv s wx=>∃ (i:Nat) (t:Int) (A':Δ) (c':Nat) (ds:Γ),i<=8/\s=Value.int .i64 t/\t+8*(i:Int)<=56/\56<=t+8*(i:Int)/\v = .slice A' ds.length c'/\ds.length<=65+i/\Hid (ds=cs++(List.range i).map λq=>fV m8 (7 - q))/\Hid (BR w1 wx v ds)) (λ_ s _=>(intOf s+8).toNat)
   case atStart=>exact ⟨0,56,_,_,cs,by omega,rfl,by omega,by omega,rfl,by omega,by simp [Hid],HB⟩
   case round =>
    obtain ⟨i,t,A1,c1,ds,hi,rfl,ht1,ht2,rfl,hdl,HD,HB1⟩:=hrel
    have hsz1:=HB1.out.size
    by_cases hlt2:i < 8
    .obtain ⟨sh,rfl⟩:∃ sh:Nat,t=(sh:Int):=⟨t.toNat,U⟩
     obtain ⟨y,HY⟩:∃ y:UInt8,Hid (y=fV m8 (7 - i)):=⟨_,rfl⟩
     have hsh:sh<=56:=U
     have hy:IntKind.u8.wrap ((m8:Int) / 2 ^ sh)=(y.toNat:Int):=by
      rw [HY.out,show sh=8*(7 - i) by omega]
      exact qG m8 (7 - i)
     go_wp2_with (at_builtin; refine oL gS rfl (.tmp 36) (.tmp 41) rfl w1.heap.size _ _ (B8 ds) (.int .u8 (y.toNat:Int)) rfl HB1.out.own rfl rfl (by omega) (by omega) 5 ?_; intro v2 w2 hown2 hg2 hb2; obtain ⟨A3,c3,cs3,HC3,hc3,rfl,HB3⟩:=BR.push (xs:=[y]) HB1.out hown2 hg2; clear hown2 hg2 hb2)
     have h3:cs3.length=ds.length+1:=by rw [HC3.out]; simp
     have HC4:Hid (cs3=cs++(List.range (i+1)).map λq=>fV m8 (7 - q)):=by
      show cs3=_
      rw [HC3.out,HD.out,AAi,U1,D1,HY.out]
      rfl
     go_roundw
     case rel=>exact ⟨i+1,(sh:Int) - 8,A3,c3,cs3,by omega,rfl,by omega,by omega,rfl,by omega,HC4,HB3⟩
     case measure=>simp [intOf]; omega
    .obtain rfl:i=8:=U
     obtain rfl:t = -8:=U
     have HPAD:Hid (ds=pG xs.length):=by
      show ds=_
      rw [HD.out,HC.out,HM8.out,HZ.out.1,HA.out.2.2.2.2]
      rfl
     have hbp2:2<=bp:=by rw [HP.out.2.2]; exact HA.out.1.lt
     have HW:=D3 (JH bp xs ds A1 c1 wr (HA.out.1.fr (HP.out.1.trans HB1.out.fr) si si) hbp2 ⟨buf,HA.out.2.1,by rw [<- HA.out.2.2.2.2]; exact HA.out.2.2.1,by rw [<- HA.out.2.2.2.2,<- HL.out]; exact HP.out.2.1.fr HB1.out.fr si⟩ HB1.out.row HB1.out.cap (λg o e=>by have:=HB1.out.far g o e; omega) (by rw [<- HA.out.2.2.2.2]; omega))
     clear c72r
     go_wp2_with fail
     refine HW.out.mono ?_
     rintro e w3 ⟨rfl,hf3,hs3⟩
     have HF3:Hid (Fr [] w w3):=((HP.out.1.trans HB1.out.fr).mono si).trans' hf3 (by have:=HP.out.2.2; simp; omega)
     obtain ⟨H,HHH⟩:∃ H,Hid (H=gX (xs++ds)):=⟨_,rfl⟩
     obtain ⟨buf3,hb3,_,hat3⟩:=hs3
     rw [<- HHH.out] at hat3
     have HH8:Hid (H.length=8):=by show H.length=8; rw [HHH.out]; exact (lE _).1
     obtain ⟨UH,HUH⟩:∃ UH,Hid (UH=U4 H):=⟨_,rfl⟩
     have HUL:Hid (UH.length=8):=by show UH.length=8; rw [HUH.out,kC]; exact HH8.out
     have HC3:Hid (bp < w3.heap.size/\∀ j v,UH[j]?=some v->w3.cell? ⟨bp,j,none⟩=some v):=by
      refine ⟨hat3.lt,λj v hj=>?_⟩
      rw [hat3.cell,R1 (by rw [<- HUH.out]; exact (C4.1 hj).1),<- HUH.out]
      exact hj
     clear hf3 hat3 hb3 HW
     have hbw3:=HC3.out.1
     have hmk:∀ w:World,(Instr.makeSlice 35 (C 0) (C 32)).run Tryz.prog w = .ok (ql w.heap.size 0 32) (w.alloc (.cells (List.replicate 32 (.int .u8 0)).toArray 5)):=λw=>by kernel_rfl
     go_wp2_with (refine qT rfl 186 (.tmp 46) rfl bp 0 rfl UH _ ?hc5 p7 rfl ?hi5 ?_)
     case hc5=>exact λj v hj=>by rw [K7]; exact (((Fr.refl [] w3).alloc _).cell (p:=⟨bp,j,none⟩) hbw3 (by simp)).trans (HC3.out.2 j v hj)
     case hi5=>rw [HUL.out]; kernel_rfl
     go_wp2_with fail
     clear hmk
     go_loopw [7,48] (λv s wx=>∃ (i:Nat) (A':Δ) (c':Nat) (es:Γ),i<=8/\s = .int .i64 i/\v = .slice A' es.length c'/\es.length<=4*i/\Hid (es=lP (H.take i))/\Hid (BR w3 wx v es)) (λ_ s _=>8 - (intOf s).toNat)
     case atStart=>exact ⟨0,_,_,[],by omega,rfl,rfl,by simp,rfl,(Fr.refl _ _).alloc _,Z8 w3 _ 32 (J7 _) (by unfold maxLen; omega) rfl⟩
     case round =>
      obtain ⟨i,A4,c4,es,hi,rfl,rfl,hel,HE,HB4⟩:=hrel
      have hsz4:=HB4.out.size
      by_cases hlt3:i < 8
      .obtain ⟨x,hx⟩:=gk H i (by rw [HH8.out]; exact hlt3)
       have hix:∀ w:World,(Instr.index 186 (.agg UH.toArray) (C (i:Int))).run Tryz.prog w = .ok (.int .u32 (x:Int)) w:=Ab (P:=Tryz.prog) 186 185 8 UH (.int .u32 (x:Int)) .i64 i p7 J (λ_=>J) hlt3 (by rw [HUH.out]; exact uY _ _ _ hx)
       obtain ⟨y3,HY3⟩:∃ y:UInt8,Hid (y=fV x 3):=⟨_,rfl⟩
       obtain ⟨y2,HY2⟩:∃ y:UInt8,Hid (y=fV x 2):=⟨_,rfl⟩
       obtain ⟨y1,HY1⟩:∃ y:UInt8,Hid (y=fV x 1):=⟨_,rfl⟩
       obtain ⟨y0,HY0⟩:∃ y:UInt8,Hid (y=fV x 0):=⟨_,rfl⟩
       have k3:IntKind.u8.wrap ((x:Int) / 16777216)=(y3.toNat:Int):=by rw [HY3.out]; exact qG x 3
       have k2:IntKind.u8.wrap ((x:Int) / 65536)=(y2.toNat:Int):=by rw [HY2.out]; exact qG x 2
       have k1:IntKind.u8.wrap ((x:Int) / 256)=(y1.toNat:Int):=by rw [HY1.out]; exact qG x 1
       have k0:IntKind.u8.wrap (x:Int)=(y0.toNat:Int):=by rw [HY0.out]; have:=qG x 0; simpa using this
       have HX:Hid (lP (H.take (i+1))=lP (H.take i)++[y3,y2,y1,y0]):=by
        obtain ⟨h1,e1⟩:=C4.1 hx
        show lP _=_
        rw [O5 h1,e1,lP,R3,HY3.out,HY2.out,HY1.out,HY0.out]
        simp [lP]
       have hiI:(i:Int) < 8:=U
       have HXX:Hid (dS x):=by
        show dS x
        refine (lE (xs++ds)).2 x ?_
        rw [<- HHH.out]
        exact F0 hx
       clear hx
       go_wp2_with (at_builtin; refine xR gS rfl (.tmp 51) (.tmp 63) rfl w3.heap.size _ _ (B8 es) rfl (HB4.out.own.alloc _) (qa wr.heap.size) 4 4 (B8 [y3,y2,y1,y0]) rfl rfl (eN.new _ _ (B8 [y3,y2,y1,y0])) (iP _) (by omega) (by simp; omega) ?_; intro v2 w2 hown2 hg2 hb2; obtain ⟨A3,c3,cs3,HC3,hc3,rfl,HB3⟩:=BR.push (xs:=[y3,y2,y1,y0]) (HB4.out.alloc _) hown2 hg2; clear hown2 hg2 hb2)
       have h3:cs3.length=es.length+4:=by rw [HC3.out]; simp
       go_roundw
       case rel=>exact ⟨i+1,A3,c3,cs3,by omega,by go_num,rfl,by omega,by show cs3=_; rw [HC3.out,HX.out,HE.out],HB3⟩
       case measure=>simp [intOf]; omega
      .obtain rfl:i=8:=U
       have hst:=wD (P:=Tryz.prog) (src:=35) (dst:=9) Y1 a7 V7 wr A4 c4 es HB4.out.row
       go_wp2_with fail
       go_ret
       refine ⟨?_,HF3.out.trans HB4.out.fr⟩
       rw [HE.out,U2 (by rw [HH8.out]; exact J7 _),HHH.out,HPAD.out]
       rfl
def aZ(p:List UInt8):Value:=.string (bL p)
theorem Rt(w p):∃ cap W,(convert 9 35 (.string (bL p))).run Tryz.prog w = .ok (ql w.heap.size p.length cap) W/\p.length<=cap/\Fr [] w W/\aI W (qa w.heap.size) (B8 p):=by
 have h:=AB9 (P:=Tryz.prog) w 9 35 5 (bL p) si si si
 have hs:(bL p).size=p.length:=by simp [bL,ByteArray.size]
 rw [hs] at h
 refine ⟨_,_,h,AH2 _ _ _ _,((Fr.refl [] w).drew.alloc _),λi u hu=>⟨_,_,I,?_,?_⟩⟩
 .simp
 .have hi:=(C4.1 hu).1
  rw [eX] at hi
  have e:(w.drew.alloc (.cells (bytesRow (bL p) (grownCap w p.length 0 5)) 5 ((bytesRow (bL p) (grownCap w p.length 0 5)).size,(bytesRow (bL p) (grownCap w p.length 0 5)).size+1))).heap[w.heap.size]?=some _:=ABa _ _
  grind [bytesRow,bL,B8,World.cell?]
theorem JJ(A c)(ps:List Γ)(w)(hv:eG w)(hrow:aI w A (ps.map aZ))(hl:ps.flatten.length<=549755813888)(hn:ps.length<=1000):
  Calls Tryz.prog 57 #[.slice A ps.length c] w λe w'=>e = .returned (.string (bL (fP ps.flatten)))/\Fr [] w w':=by
 have H:=D3 (And.intro hv (And.intro hrow hl))
 clear hv hrow hl
 obtain ⟨m,HM⟩:∃ m,Hid (m=ps.length):=⟨_,rfl⟩
 rw [<- HM.out] at hn ⊢
 go_enter Tryz.func57,Tryz.ntmps57
 go_wp2_with fail
 refine (JC w H.out.1).mono ?_
 rintro e w1 ⟨rfl,hf1,hs1⟩
 obtain ⟨bs,hbs⟩:∃ bs,bs=w.heap.size:=⟨_,rfl⟩
 rw [<- hbs] at hs1 ⊢
 have hb2:2<=bs:=by rw [hbs]; exact H.out.1.lt
 have HB:=D3 hbs
 have H1:=D3 (And.intro hf1 hs1)
 clear hf1 hs1 hbs
 go_wp2_with fail
 go_loopw [9] (λi wx=>∃ k:Nat,k<=m/\i = .int .i64 k/\Hid (Fr [] w wx/\jP wx bs (ps.take k).flatten)) (λi _=>m - (intOf i).toNat)
 case atStart=>exact ⟨0,by omega,rfl,H1⟩
 case round =>
  obtain ⟨k,hk,rfl,HR⟩:=hrel
  by_cases hlt:k < m
  .obtain ⟨p,hp⟩:=gk ps k (by rw [<- HM.out]; exact hlt)
   obtain ⟨g,o,rfl,hg,hc⟩:=H.out.2.1 k (aZ p) (by rw [U8,hp]; rfl)
   have hc':wr.cell? ⟨g,o+k,none⟩=some (vS p):=by rw [HR.out.1.cell (p:=⟨g,o+k,none⟩) hg (by simp)]; exact hc
   have HT:Hid ((ps.take (k+1)).flatten=(ps.take k).flatten++p/\((ps.take k).flatten++p).length<=549755813888):=by
    obtain ⟨h1,e1⟩:=C4.1 hp
    have e:(ps.take (k+1)).flatten=(ps.take k).flatten++p:=by rw [O5 h1,e1,ACa]; simp
    refine ⟨e,?_⟩
    rw [<- e]
    refine P8 ?_ H.out.2.2
    have:ps.flatten=(ps.take (k+1)).flatten++(ps.drop (k+1)).flatten:=by rw [<- ACa,S6]
    rw [this,C3]
    omega
   obtain ⟨cap,W,hcv,hcap,hfW,hrW⟩:=Rt wr p
   have HW:Hid (p.length<=cap/\Fr [] wr W/\aI W (qa wr.heap.size) (B8 p)):=⟨hcap,hfW,hrW⟩
   clear hcap hfW hrW hp hc
   have HWR:=D3 (JH bs (ps.take k).flatten p (qa wr.heap.size) cap W (H.out.1.fr (HR.out.1.trans HW.out.2.1) (by simp) (by simp)) hb2 (HR.out.2.fr HW.out.2.1 (by simp)) HW.out.2.2 HW.out.1 (λg o e=>by
    injection e with e
    injection e with e1 e2
    have:=HR.out.2.lt
    omega) (by have:=HT.out.2; rw [C3] at this; omega))
   have hkI:(k:Int) < (m:Int):=by omega
   go_wp2_with fail
   refine HWR.out.mono ?_
   rintro e w3 ⟨rfl,hf3,hs3⟩
   have HN:Hid (Fr [] w w3/\jP w3 bs (ps.take (k+1)).flatten):=⟨((HR.out.1.trans HW.out.2.1).mono (by simp)).trans' hf3 (by have:=HB.out; simp; omega),by rw [HT.out.1]; exact hs3⟩
   clear hf3 hs3 HWR HW hcv hc'
   go_wp2_with fail
   go_roundw
   case rel=>exact ⟨k+1,by omega,by go_num,HN⟩
   case measure=>simp [intOf]; omega
  .obtain rfl:k=m:=by omega
   have HS:=D3 (JI bs (ps.take k).flatten wr (H.out.1.fr HR.out.1 (by simp) (by simp)) HR.out.2 (by rw [HM.out,R0]; exact H.out.2.2))
   go_wp2_with fail
   refine HS.out.mono ?_
   rintro e w3 ⟨rfl,hf3⟩
   go_wp2_with fail
   go_ret
   refine ⟨?_,HR.out.1.trans hf3⟩
   rw [HM.out,R0]
   rfl
end Go.Proofs.YtkjnecaieiaijaaGreatDoor
