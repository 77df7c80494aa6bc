/- The table of types of this seat, and that it is right. -/
import Derived.Test.YthniifphilnokaaRows
import Derived.Test.YthniifphilnokaaEngK
namespace Go.Proofs.Ythniifphilnokaa
open Go.RowKit
def tab : Tab := [
  ⟨1, .fn, 1, 8, .nilFunc⟩,
  ⟨2, .int .i64, 1, 8, .int .i64 0⟩,
  ⟨3, .int .i64, 1, 8, .int .i64 0⟩,
  ⟨4, .bool, 1, 1, .bool false⟩,
  ⟨5, .int .u8, 1, 1, .int .u8 0⟩,
  ⟨6, .int .u8, 1, 1, .int .u8 0⟩,
  ⟨7, .struct [(0, 2), (1, 3), (2, 4), (3, 6)], 4, 24, .agg #[.int .i64 0, .int .i64 0, .bool false, .int .u8 0]⟩,
  ⟨8, .struct [(0, 2), (1, 3), (2, 4), (3, 6)], 4, 24, .agg #[.int .i64 0, .int .i64 0, .bool false, .int .u8 0]⟩,
  ⟨9, .string, 1, 16, .string ⟨#[]⟩⟩,
  ⟨10, .string, 1, 16, .string ⟨#[]⟩⟩,
  ⟨11, .string, 1, 16, .string ⟨#[]⟩⟩,
  ⟨12, .int .u64, 1, 8, .int .u64 0⟩,
  ⟨13, .struct [(0, 9), (1, 12)], 2, 24, .agg #[.string ⟨#[]⟩, .int .u64 0]⟩,
  ⟨14, .struct [(0, 9), (1, 12)], 2, 24, .agg #[.string ⟨#[]⟩, .int .u64 0]⟩,
  ⟨15, .ptr 84, 1, 8, .pointer none⟩,
  ⟨16, .ptr 87, 1, 8, .pointer none⟩,
  ⟨17, .ptr 94, 1, 8, .pointer none⟩,
  ⟨18, .struct [(0, 17)], 1, 8, .agg #[.pointer none]⟩,
  ⟨19, .struct [(0, 17)], 1, 8, .agg #[.pointer none]⟩,
  ⟨20, .iface, 1, 16, .nilIface⟩,
  ⟨21, .int .i32, 1, 4, .int .i32 0⟩,
  ⟨22, .int .u64, 1, 8, .int .u64 0⟩,
  ⟨23, .struct [(0, 3), (1, 3), (2, 22), (3, 9)], 4, 40, .agg #[.int .i64 0, .int .i64 0, .int .u64 0, .string ⟨#[]⟩]⟩,
  ⟨24, .struct [(0, 3), (1, 3), (2, 22), (3, 9)], 4, 40, .agg #[.int .i64 0, .int .i64 0, .int .u64 0, .string ⟨#[]⟩]⟩,
  ⟨25, .fn, 1, 8, .nilFunc⟩,
  ⟨26, .fn, 1, 8, .nilFunc⟩,
  ⟨27, .int .i64, 1, 8, .int .i64 0⟩,
  ⟨29, .fn, 1, 8, .nilFunc⟩,
  ⟨30, .fn, 1, 8, .nilFunc⟩,
  ⟨31, .fn, 1, 8, .nilFunc⟩,
  ⟨33, .fn, 1, 8, .nilFunc⟩,
  ⟨34, .fn, 1, 8, .nilFunc⟩,
  ⟨35, .fn, 1, 8, .nilFunc⟩,
  ⟨36, .array 4 5, 4, 4, .agg #[.int .u8 0, .int .u8 0, .int .u8 0, .int .u8 0]⟩,
  ⟨37, .int .u64, 1, 8, .int .u64 0⟩,
  ⟨38, .slice 5, 1, 24, .slice none 0 0⟩,
  ⟨39, .fn, 1, 8, .nilFunc⟩,
  ⟨40, .struct [(0, 3), (1, 3), (2, 3), (3, 3), (4, 3), (5, 22)], 6, 48, .agg #[.int .i64 0, .int .i64 0, .int .i64 0, .int .i64 0, .int .i64 0, .int .u64 0]⟩,
  ⟨41, .struct [(0, 3), (1, 3), (2, 3), (3, 3), (4, 3), (5, 22)], 6, 48, .agg #[.int .i64 0, .int .i64 0, .int .i64 0, .int .i64 0, .int .i64 0, .int .u64 0]⟩,
  ⟨42, .fn, 1, 8, .nilFunc⟩,
  ⟨43, .fn, 1, 8, .nilFunc⟩,
  ⟨44, .fn, 1, 8, .nilFunc⟩,
  ⟨46, .fn, 1, 8, .nilFunc⟩,
  ⟨47, .fn, 1, 8, .nilFunc⟩,
  ⟨48, .fn, 1, 8, .nilFunc⟩,
  ⟨49, .fn, 1, 8, .nilFunc⟩,
  ⟨50, .fn, 1, 8, .nilFunc⟩,
  ⟨52, .fn, 1, 8, .nilFunc⟩,
  ⟨53, .array 5 3, 5, 40, .agg #[.int .i64 0, .int .i64 0, .int .i64 0, .int .i64 0, .int .i64 0]⟩,
  ⟨54, .fn, 1, 8, .nilFunc⟩,
  ⟨55, .slice 3, 1, 24, .slice none 0 0⟩,
  ⟨56, .fn, 1, 8, .nilFunc⟩,
  ⟨57, .ptr 3, 1, 8, .pointer none⟩,
  ⟨58, .array 5 57, 5, 40, .agg #[.pointer none, .pointer none, .pointer none, .pointer none, .pointer none]⟩,
  ⟨59, .int .u32, 1, 4, .int .u32 0⟩,
  ⟨60, .fn, 1, 8, .nilFunc⟩,
  ⟨61, .fn, 1, 8, .nilFunc⟩,
  ⟨63, .fn, 1, 8, .nilFunc⟩,
  ⟨64, .fn, 1, 8, .nilFunc⟩,
  ⟨65, .ptr 67, 1, 8, .pointer none⟩,
  ⟨66, .struct [(0, 65), (1, 38)], 2, 32, .agg #[.pointer none, .slice none 0 0]⟩,
  ⟨67, .struct [(0, 65), (1, 38)], 2, 32, .agg #[.pointer none, .slice none 0 0]⟩,
  ⟨68, .fn, 1, 8, .nilFunc⟩,
  ⟨69, .iface, 1, 16, .nilIface⟩,
  ⟨70, .iface, 1, 16, .nilIface⟩,
  ⟨72, .fn, 1, 8, .nilFunc⟩,
  ⟨73, .fn, 1, 8, .nilFunc⟩,
  ⟨74, .fn, 1, 8, .nilFunc⟩,
  ⟨76, .fn, 1, 8, .nilFunc⟩,
  ⟨78, .fn, 1, 8, .nilFunc⟩,
  ⟨79, .ptr 5, 1, 8, .pointer none⟩,
  ⟨81, .fn, 1, 8, .nilFunc⟩,
  ⟨82, .fn, 1, 8, .nilFunc⟩,
  ⟨83, .struct [(0, 17), (1, 17), (2, 17), (3, 9)], 4, 40, .agg #[.pointer none, .pointer none, .pointer none, .string ⟨#[]⟩]⟩,
  ⟨84, .struct [(0, 17), (1, 17), (2, 17), (3, 9)], 4, 40, .agg #[.pointer none, .pointer none, .pointer none, .string ⟨#[]⟩]⟩,
  ⟨85, .array 0 16, 0, 0, .agg #[]⟩,
  ⟨86, .struct [(0, 85)], 0, 0, .agg #[]⟩,
  ⟨87, .struct [(0, 85)], 0, 0, .agg #[]⟩,
  ⟨88, .int .u8, 1, 1, .int .u8 0⟩,
  ⟨89, .int .u8, 1, 1, .int .u8 0⟩,
  ⟨90, .fn, 1, 8, .nilFunc⟩,
  ⟨91, .int .i32, 1, 4, .int .i32 0⟩,
  ⟨92, .int .i32, 1, 4, .int .i32 0⟩,
  ⟨93, .struct [(0, 12), (1, 12), (2, 59), (3, 88), (4, 5), (5, 5), (6, 89), (7, 90), (8, 79), (9, 91), (10, 92)], 11, 48, .agg #[.int .u64 0, .int .u64 0, .int .u32 0, .int .u8 0, .int .u8 0, .int .u8 0, .int .u8 0, .nilFunc, .pointer none, .int .i32 0, .int .i32 0]⟩,
  ⟨94, .struct [(0, 12), (1, 12), (2, 59), (3, 88), (4, 5), (5, 5), (6, 89), (7, 90), (8, 79), (9, 91), (10, 92)], 11, 48, .agg #[.int .u64 0, .int .u64 0, .int .u32 0, .int .u8 0, .int .u8 0, .int .u8 0, .int .u8 0, .nilFunc, .pointer none, .int .i32 0, .int .i32 0]⟩]
theorem tab1 : RowOk Try.prog ⟨1, .fn, 1, 8, .nilFunc⟩ := ⟨⟨_, _, _, Try.underlying1⟩, by kernel_rfl⟩
theorem tab2 : RowOk Try.prog ⟨2, .int .i64, 1, 8, .int .i64 0⟩ := ⟨Try.underlying2, by kernel_rfl⟩
theorem tab3 : RowOk Try.prog ⟨3, .int .i64, 1, 8, .int .i64 0⟩ := ⟨Try.underlying3, by kernel_rfl⟩
theorem tab4 : RowOk Try.prog ⟨4, .bool, 1, 1, .bool false⟩ := ⟨Try.underlying4, by kernel_rfl⟩
theorem tab5 : RowOk Try.prog ⟨5, .int .u8, 1, 1, .int .u8 0⟩ := ⟨Try.underlying5, by kernel_rfl⟩
theorem tab6 : RowOk Try.prog ⟨6, .int .u8, 1, 1, .int .u8 0⟩ := ⟨Try.underlying6, by kernel_rfl⟩
theorem tab7 : RowOk Try.prog ⟨7, .struct [(0, 2), (1, 3), (2, 4), (3, 6)], 4, 24, .agg #[.int .i64 0, .int .i64 0, .bool false, .int .u8 0]⟩ := ⟨⟨_, Try.underlying7, by kernel_rfl⟩, by kernel_rfl⟩
theorem tab8 : RowOk Try.prog ⟨8, .struct [(0, 2), (1, 3), (2, 4), (3, 6)], 4, 24, .agg #[.int .i64 0, .int .i64 0, .bool false, .int .u8 0]⟩ := ⟨⟨_, Try.underlying8, by kernel_rfl⟩, by kernel_rfl⟩
theorem tab9 : RowOk Try.prog ⟨9, .string, 1, 16, .string ⟨#[]⟩⟩ := ⟨Try.underlying9, by kernel_rfl⟩
theorem tab10 : RowOk Try.prog ⟨10, .string, 1, 16, .string ⟨#[]⟩⟩ := ⟨Try.underlying10, by kernel_rfl⟩
theorem tab11 : RowOk Try.prog ⟨11, .string, 1, 16, .string ⟨#[]⟩⟩ := ⟨Try.underlying11, by kernel_rfl⟩
theorem tab12 : RowOk Try.prog ⟨12, .int .u64, 1, 8, .int .u64 0⟩ := ⟨Try.underlying12, by kernel_rfl⟩
theorem tab13 : RowOk Try.prog ⟨13, .struct [(0, 9), (1, 12)], 2, 24, .agg #[.string ⟨#[]⟩, .int .u64 0]⟩ := ⟨⟨_, Try.underlying13, by kernel_rfl⟩, by kernel_rfl⟩
theorem tab14 : RowOk Try.prog ⟨14, .struct [(0, 9), (1, 12)], 2, 24, .agg #[.string ⟨#[]⟩, .int .u64 0]⟩ := ⟨⟨_, Try.underlying14, by kernel_rfl⟩, by kernel_rfl⟩
theorem tab15 : RowOk Try.prog ⟨15, .ptr 84, 1, 8, .pointer none⟩ := ⟨Try.underlying15, by kernel_rfl⟩
theorem tab16 : RowOk Try.prog ⟨16, .ptr 87, 1, 8, .pointer none⟩ := ⟨Try.underlying16, by kernel_rfl⟩
theorem tab17 : RowOk Try.prog ⟨17, .ptr 94, 1, 8, .pointer none⟩ := ⟨Try.underlying17, by kernel_rfl⟩
theorem tab18 : RowOk Try.prog ⟨18, .struct [(0, 17)], 1, 8, .agg #[.pointer none]⟩ := ⟨⟨_, Try.underlying18, by kernel_rfl⟩, by kernel_rfl⟩
theorem tab19 : RowOk Try.prog ⟨19, .struct [(0, 17)], 1, 8, .agg #[.pointer none]⟩ := ⟨⟨_, Try.underlying19, by kernel_rfl⟩, by kernel_rfl⟩
theorem tab20 : RowOk Try.prog ⟨20, .iface, 1, 16, .nilIface⟩ := ⟨⟨_, Try.underlying20⟩, by kernel_rfl⟩
theorem tab21 : RowOk Try.prog ⟨21, .int .i32, 1, 4, .int .i32 0⟩ := ⟨Try.underlying21, by kernel_rfl⟩
theorem tab22 : RowOk Try.prog ⟨22, .int .u64, 1, 8, .int .u64 0⟩ := ⟨Try.underlying22, by kernel_rfl⟩
theorem tab23 : RowOk Try.prog ⟨23, .struct [(0, 3), (1, 3), (2, 22), (3, 9)], 4, 40, .agg #[.int .i64 0, .int .i64 0, .int .u64 0, .string ⟨#[]⟩]⟩ := ⟨⟨_, Try.underlying23, by kernel_rfl⟩, by kernel_rfl⟩
theorem tab24 : RowOk Try.prog ⟨24, .struct [(0, 3), (1, 3), (2, 22), (3, 9)], 4, 40, .agg #[.int .i64 0, .int .i64 0, .int .u64 0, .string ⟨#[]⟩]⟩ := ⟨⟨_, Try.underlying24, by kernel_rfl⟩, by kernel_rfl⟩
theorem tab25 : RowOk Try.prog ⟨25, .fn, 1, 8, .nilFunc⟩ := ⟨⟨_, _, _, Try.underlying25⟩, by kernel_rfl⟩
theorem tab26 : RowOk Try.prog ⟨26, .fn, 1, 8, .nilFunc⟩ := ⟨⟨_, _, _, Try.underlying26⟩, by kernel_rfl⟩
theorem tab27 : RowOk Try.prog ⟨27, .int .i64, 1, 8, .int .i64 0⟩ := ⟨Try.underlying27, by kernel_rfl⟩
theorem tab29 : RowOk Try.prog ⟨29, .fn, 1, 8, .nilFunc⟩ := ⟨⟨_, _, _, Try.underlying29⟩, by kernel_rfl⟩
theorem tab30 : RowOk Try.prog ⟨30, .fn, 1, 8, .nilFunc⟩ := ⟨⟨_, _, _, Try.underlying30⟩, by kernel_rfl⟩
theorem tab31 : RowOk Try.prog ⟨31, .fn, 1, 8, .nilFunc⟩ := ⟨⟨_, _, _, Try.underlying31⟩, by kernel_rfl⟩
theorem tab33 : RowOk Try.prog ⟨33, .fn, 1, 8, .nilFunc⟩ := ⟨⟨_, _, _, Try.underlying33⟩, by kernel_rfl⟩
theorem tab34 : RowOk Try.prog ⟨34, .fn, 1, 8, .nilFunc⟩ := ⟨⟨_, _, _, Try.underlying34⟩, by kernel_rfl⟩
theorem tab35 : RowOk Try.prog ⟨35, .fn, 1, 8, .nilFunc⟩ := ⟨⟨_, _, _, Try.underlying35⟩, by kernel_rfl⟩
theorem tab36 : RowOk Try.prog ⟨36, .array 4 5, 4, 4, .agg #[.int .u8 0, .int .u8 0, .int .u8 0, .int .u8 0]⟩ := ⟨Try.underlying36, by kernel_rfl⟩
theorem tab37 : RowOk Try.prog ⟨37, .int .u64, 1, 8, .int .u64 0⟩ := ⟨Try.underlying37, by kernel_rfl⟩
theorem tab38 : RowOk Try.prog ⟨38, .slice 5, 1, 24, .slice none 0 0⟩ := ⟨Try.underlying38, by kernel_rfl⟩
theorem tab39 : RowOk Try.prog ⟨39, .fn, 1, 8, .nilFunc⟩ := ⟨⟨_, _, _, Try.underlying39⟩, by kernel_rfl⟩
theorem tab40 : RowOk Try.prog ⟨40, .struct [(0, 3), (1, 3), (2, 3), (3, 3), (4, 3), (5, 22)], 6, 48, .agg #[.int .i64 0, .int .i64 0, .int .i64 0, .int .i64 0, .int .i64 0, .int .u64 0]⟩ := ⟨⟨_, Try.underlying40, by kernel_rfl⟩, by kernel_rfl⟩
theorem tab41 : RowOk Try.prog ⟨41, .struct [(0, 3), (1, 3), (2, 3), (3, 3), (4, 3), (5, 22)], 6, 48, .agg #[.int .i64 0, .int .i64 0, .int .i64 0, .int .i64 0, .int .i64 0, .int .u64 0]⟩ := ⟨⟨_, Try.underlying41, by kernel_rfl⟩, by kernel_rfl⟩
theorem tab42 : RowOk Try.prog ⟨42, .fn, 1, 8, .nilFunc⟩ := ⟨⟨_, _, _, Try.underlying42⟩, by kernel_rfl⟩
theorem tab43 : RowOk Try.prog ⟨43, .fn, 1, 8, .nilFunc⟩ := ⟨⟨_, _, _, Try.underlying43⟩, by kernel_rfl⟩
theorem tab44 : RowOk Try.prog ⟨44, .fn, 1, 8, .nilFunc⟩ := ⟨⟨_, _, _, Try.underlying44⟩, by kernel_rfl⟩
theorem tab46 : RowOk Try.prog ⟨46, .fn, 1, 8, .nilFunc⟩ := ⟨⟨_, _, _, Try.underlying46⟩, by kernel_rfl⟩
theorem tab47 : RowOk Try.prog ⟨47, .fn, 1, 8, .nilFunc⟩ := ⟨⟨_, _, _, Try.underlying47⟩, by kernel_rfl⟩
theorem tab48 : RowOk Try.prog ⟨48, .fn, 1, 8, .nilFunc⟩ := ⟨⟨_, _, _, Try.underlying48⟩, by kernel_rfl⟩
theorem tab49 : RowOk Try.prog ⟨49, .fn, 1, 8, .nilFunc⟩ := ⟨⟨_, _, _, Try.underlying49⟩, by kernel_rfl⟩
theorem tab50 : RowOk Try.prog ⟨50, .fn, 1, 8, .nilFunc⟩ := ⟨⟨_, _, _, Try.underlying50⟩, by kernel_rfl⟩
theorem tab52 : RowOk Try.prog ⟨52, .fn, 1, 8, .nilFunc⟩ := ⟨⟨_, _, _, Try.underlying52⟩, by kernel_rfl⟩
theorem tab53 : RowOk Try.prog ⟨53, .array 5 3, 5, 40, .agg #[.int .i64 0, .int .i64 0, .int .i64 0, .int .i64 0, .int .i64 0]⟩ := ⟨Try.underlying53, by kernel_rfl⟩
theorem tab54 : RowOk Try.prog ⟨54, .fn, 1, 8, .nilFunc⟩ := ⟨⟨_, _, _, Try.underlying54⟩, by kernel_rfl⟩
theorem tab55 : RowOk Try.prog ⟨55, .slice 3, 1, 24, .slice none 0 0⟩ := ⟨Try.underlying55, by kernel_rfl⟩
theorem tab56 : RowOk Try.prog ⟨56, .fn, 1, 8, .nilFunc⟩ := ⟨⟨_, _, _, Try.underlying56⟩, by kernel_rfl⟩
theorem tab57 : RowOk Try.prog ⟨57, .ptr 3, 1, 8, .pointer none⟩ := ⟨Try.underlying57, by kernel_rfl⟩
theorem tab58 : RowOk Try.prog ⟨58, .array 5 57, 5, 40, .agg #[.pointer none, .pointer none, .pointer none, .pointer none, .pointer none]⟩ := ⟨Try.underlying58, by kernel_rfl⟩
theorem tab59 : RowOk Try.prog ⟨59, .int .u32, 1, 4, .int .u32 0⟩ := ⟨Try.underlying59, by kernel_rfl⟩
theorem tab60 : RowOk Try.prog ⟨60, .fn, 1, 8, .nilFunc⟩ := ⟨⟨_, _, _, Try.underlying60⟩, by kernel_rfl⟩
theorem tab61 : RowOk Try.prog ⟨61, .fn, 1, 8, .nilFunc⟩ := ⟨⟨_, _, _, Try.underlying61⟩, by kernel_rfl⟩
theorem tab63 : RowOk Try.prog ⟨63, .fn, 1, 8, .nilFunc⟩ := ⟨⟨_, _, _, Try.underlying63⟩, by kernel_rfl⟩
theorem tab64 : RowOk Try.prog ⟨64, .fn, 1, 8, .nilFunc⟩ := ⟨⟨_, _, _, Try.underlying64⟩, by kernel_rfl⟩
theorem tab65 : RowOk Try.prog ⟨65, .ptr 67, 1, 8, .pointer none⟩ := ⟨Try.underlying65, by kernel_rfl⟩
theorem tab66 : RowOk Try.prog ⟨66, .struct [(0, 65), (1, 38)], 2, 32, .agg #[.pointer none, .slice none 0 0]⟩ := ⟨⟨_, Try.underlying66, by kernel_rfl⟩, by kernel_rfl⟩
theorem tab67 : RowOk Try.prog ⟨67, .struct [(0, 65), (1, 38)], 2, 32, .agg #[.pointer none, .slice none 0 0]⟩ := ⟨⟨_, Try.underlying67, by kernel_rfl⟩, by kernel_rfl⟩
theorem tab68 : RowOk Try.prog ⟨68, .fn, 1, 8, .nilFunc⟩ := ⟨⟨_, _, _, Try.underlying68⟩, by kernel_rfl⟩
theorem tab69 : RowOk Try.prog ⟨69, .iface, 1, 16, .nilIface⟩ := ⟨⟨_, Try.underlying69⟩, by kernel_rfl⟩
theorem tab70 : RowOk Try.prog ⟨70, .iface, 1, 16, .nilIface⟩ := ⟨⟨_, Try.underlying70⟩, by kernel_rfl⟩
theorem tab72 : RowOk Try.prog ⟨72, .fn, 1, 8, .nilFunc⟩ := ⟨⟨_, _, _, Try.underlying72⟩, by kernel_rfl⟩
theorem tab73 : RowOk Try.prog ⟨73, .fn, 1, 8, .nilFunc⟩ := ⟨⟨_, _, _, Try.underlying73⟩, by kernel_rfl⟩
theorem tab74 : RowOk Try.prog ⟨74, .fn, 1, 8, .nilFunc⟩ := ⟨⟨_, _, _, Try.underlying74⟩, by kernel_rfl⟩
theorem tab76 : RowOk Try.prog ⟨76, .fn, 1, 8, .nilFunc⟩ := ⟨⟨_, _, _, Try.underlying76⟩, by kernel_rfl⟩
theorem tab78 : RowOk Try.prog ⟨78, .fn, 1, 8, .nilFunc⟩ := ⟨⟨_, _, _, Try.underlying78⟩, by kernel_rfl⟩
theorem tab79 : RowOk Try.prog ⟨79, .ptr 5, 1, 8, .pointer none⟩ := ⟨Try.underlying79, by kernel_rfl⟩
theorem tab81 : RowOk Try.prog ⟨81, .fn, 1, 8, .nilFunc⟩ := ⟨⟨_, _, _, Try.underlying81⟩, by kernel_rfl⟩
theorem tab82 : RowOk Try.prog ⟨82, .fn, 1, 8, .nilFunc⟩ := ⟨⟨_, _, _, Try.underlying82⟩, by kernel_rfl⟩
theorem tab83 : RowOk Try.prog ⟨83, .struct [(0, 17), (1, 17), (2, 17), (3, 9)], 4, 40, .agg #[.pointer none, .pointer none, .pointer none, .string ⟨#[]⟩]⟩ := ⟨⟨_, Try.underlying83, by kernel_rfl⟩, by kernel_rfl⟩
theorem tab84 : RowOk Try.prog ⟨84, .struct [(0, 17), (1, 17), (2, 17), (3, 9)], 4, 40, .agg #[.pointer none, .pointer none, .pointer none, .string ⟨#[]⟩]⟩ := ⟨⟨_, Try.underlying84, by kernel_rfl⟩, by kernel_rfl⟩
theorem tab85 : RowOk Try.prog ⟨85, .array 0 16, 0, 0, .agg #[]⟩ := ⟨Try.underlying85, by kernel_rfl⟩
theorem tab86 : RowOk Try.prog ⟨86, .struct [(0, 85)], 0, 0, .agg #[]⟩ := ⟨⟨_, Try.underlying86, by kernel_rfl⟩, by kernel_rfl⟩
theorem tab87 : RowOk Try.prog ⟨87, .struct [(0, 85)], 0, 0, .agg #[]⟩ := ⟨⟨_, Try.underlying87, by kernel_rfl⟩, by kernel_rfl⟩
theorem tab88 : RowOk Try.prog ⟨88, .int .u8, 1, 1, .int .u8 0⟩ := ⟨Try.underlying88, by kernel_rfl⟩
theorem tab89 : RowOk Try.prog ⟨89, .int .u8, 1, 1, .int .u8 0⟩ := ⟨Try.underlying89, by kernel_rfl⟩
theorem tab90 : RowOk Try.prog ⟨90, .fn, 1, 8, .nilFunc⟩ := ⟨⟨_, _, _, Try.underlying90⟩, by kernel_rfl⟩
theorem tab91 : RowOk Try.prog ⟨91, .int .i32, 1, 4, .int .i32 0⟩ := ⟨Try.underlying91, by kernel_rfl⟩
theorem tab92 : RowOk Try.prog ⟨92, .int .i32, 1, 4, .int .i32 0⟩ := ⟨Try.underlying92, by kernel_rfl⟩
theorem tab93 : RowOk Try.prog ⟨93, .struct [(0, 12), (1, 12), (2, 59), (3, 88), (4, 5), (5, 5), (6, 89), (7, 90), (8, 79), (9, 91), (10, 92)], 11, 48, .agg #[.int .u64 0, .int .u64 0, .int .u32 0, .int .u8 0, .int .u8 0, .int .u8 0, .int .u8 0, .nilFunc, .pointer none, .int .i32 0, .int .i32 0]⟩ := ⟨⟨_, Try.underlying93, by kernel_rfl⟩, by kernel_rfl⟩
theorem tab94 : RowOk Try.prog ⟨94, .struct [(0, 12), (1, 12), (2, 59), (3, 88), (4, 5), (5, 5), (6, 89), (7, 90), (8, 79), (9, 91), (10, 92)], 11, 48, .agg #[.int .u64 0, .int .u64 0, .int .u32 0, .int .u8 0, .int .u8 0, .int .u8 0, .int .u8 0, .nilFunc, .pointer none, .int .i32 0, .int .i32 0]⟩ := ⟨⟨_, Try.underlying94, by kernel_rfl⟩, by kernel_rfl⟩
theorem tabOk : TabOk Try.prog tab :=
  .cons tab1 <|
  .cons tab2 <|
  .cons tab3 <|
  .cons tab4 <|
  .cons tab5 <|
  .cons tab6 <|
  .cons tab7 <|
  .cons tab8 <|
  .cons tab9 <|
  .cons tab10 <|
  .cons tab11 <|
  .cons tab12 <|
  .cons tab13 <|
  .cons tab14 <|
  .cons tab15 <|
  .cons tab16 <|
  .cons tab17 <|
  .cons tab18 <|
  .cons tab19 <|
  .cons tab20 <|
  .cons tab21 <|
  .cons tab22 <|
  .cons tab23 <|
  .cons tab24 <|
  .cons tab25 <|
  .cons tab26 <|
  .cons tab27 <|
  .cons tab29 <|
  .cons tab30 <|
  .cons tab31 <|
  .cons tab33 <|
  .cons tab34 <|
  .cons tab35 <|
  .cons tab36 <|
  .cons tab37 <|
  .cons tab38 <|
  .cons tab39 <|
  .cons tab40 <|
  .cons tab41 <|
  .cons tab42 <|
  .cons tab43 <|
  .cons tab44 <|
  .cons tab46 <|
  .cons tab47 <|
  .cons tab48 <|
  .cons tab49 <|
  .cons tab50 <|
  .cons tab52 <|
  .cons tab53 <|
  .cons tab54 <|
  .cons tab55 <|
  .cons tab56 <|
  .cons tab57 <|
  .cons tab58 <|
  .cons tab59 <|
  .cons tab60 <|
  .cons tab61 <|
  .cons tab63 <|
  .cons tab64 <|
  .cons tab65 <|
  .cons tab66 <|
  .cons tab67 <|
  .cons tab68 <|
  .cons tab69 <|
  .cons tab70 <|
  .cons tab72 <|
  .cons tab73 <|
  .cons tab74 <|
  .cons tab76 <|
  .cons tab78 <|
  .cons tab79 <|
  .cons tab81 <|
  .cons tab82 <|
  .cons tab83 <|
  .cons tab84 <|
  .cons tab85 <|
  .cons tab86 <|
  .cons tab87 <|
  .cons tab88 <|
  .cons tab89 <|
  .cons tab90 <|
  .cons tab91 <|
  .cons tab92 <|
  .cons tab93 <|
  .cons tab94 <| .nil
theorem mixed : Try.prog.follows .mixedOrders = true := by kernel_rfl
end Go.Proofs.Ythniifphilnokaa
