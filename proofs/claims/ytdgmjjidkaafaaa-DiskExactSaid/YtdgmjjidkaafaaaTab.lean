/- The table of types of this seat, and that it is right. -/
import Derived.Test.YtdgmjjidkaafaaaRows
import Derived.Test.YtdgmjjidkaafaaaEngL
namespace Go.Proofs.Ytdgmjjidkaafaaa
open Go.RowKit
def tab : Tab := [
  ⟨1, .fn, 1, 8, .nilFunc⟩,
  ⟨2, .int .i64, 1, 8, .int .i64 0⟩,
  ⟨3, .int .i64, 1, 8, .int .i64 0⟩,
  ⟨4, .bool, 1, 1, .bool false⟩,
  ⟨5, .int .u8, 1, 1, .int .u8 0⟩,
  ⟨6, .int .u8, 1, 1, .int .u8 0⟩,
  ⟨7, .struct [(0, 2), (1, 3), (2, 4), (3, 6)], 4, 24, .agg #[.int .i64 0, .int .i64 0, .bool false, .int .u8 0]⟩,
  ⟨8, .struct [(0, 2), (1, 3), (2, 4), (3, 6)], 4, 24, .agg #[.int .i64 0, .int .i64 0, .bool false, .int .u8 0]⟩,
  ⟨9, .string, 1, 16, .string ⟨#[]⟩⟩,
  ⟨10, .string, 1, 16, .string ⟨#[]⟩⟩,
  ⟨11, .string, 1, 16, .string ⟨#[]⟩⟩,
  ⟨12, .int .u64, 1, 8, .int .u64 0⟩,
  ⟨13, .struct [(0, 9), (1, 12)], 2, 24, .agg #[.string ⟨#[]⟩, .int .u64 0]⟩,
  ⟨14, .struct [(0, 9), (1, 12)], 2, 24, .agg #[.string ⟨#[]⟩, .int .u64 0]⟩,
  ⟨15, .ptr 136, 1, 8, .pointer none⟩,
  ⟨16, .ptr 139, 1, 8, .pointer none⟩,
  ⟨17, .ptr 146, 1, 8, .pointer none⟩,
  ⟨18, .struct [(0, 17)], 1, 8, .agg #[.pointer none]⟩,
  ⟨19, .struct [(0, 17)], 1, 8, .agg #[.pointer none]⟩,
  ⟨20, .iface, 1, 16, .nilIface⟩,
  ⟨21, .int .i32, 1, 4, .int .i32 0⟩,
  ⟨22, .slice 4, 1, 24, .slice none 0 0⟩,
  ⟨23, .fn, 1, 8, .nilFunc⟩,
  ⟨24, .int .u64, 1, 8, .int .u64 0⟩,
  ⟨25, .ptr 58, 1, 8, .pointer none⟩,
  ⟨26, .fn, 1, 8, .nilFunc⟩,
  ⟨27, .int .i64, 1, 8, .int .i64 0⟩,
  ⟨28, .fn, 1, 8, .nilFunc⟩,
  ⟨29, .fn, 1, 8, .nilFunc⟩,
  ⟨30, .fn, 1, 8, .nilFunc⟩,
  ⟨31, .fn, 1, 8, .nilFunc⟩,
  ⟨32, .fn, 1, 8, .nilFunc⟩,
  ⟨33, .fn, 1, 8, .nilFunc⟩,
  ⟨34, .fn, 1, 8, .nilFunc⟩,
  ⟨35, .slice 45, 1, 24, .slice none 0 0⟩,
  ⟨36, .slice 3, 1, 24, .slice none 0 0⟩,
  ⟨37, .fn, 1, 8, .nilFunc⟩,
  ⟨38, .slice 9, 1, 24, .slice none 0 0⟩,
  ⟨39, .fn, 1, 8, .nilFunc⟩,
  ⟨40, .fn, 1, 8, .nilFunc⟩,
  ⟨41, .fn, 1, 8, .nilFunc⟩,
  ⟨43, .fn, 1, 8, .nilFunc⟩,
  ⟨44, .struct [(0, 3), (1, 9), (2, 3), (3, 5), (4, 3), (5, 36)], 6, 72, .agg #[.int .i64 0, .string ⟨#[]⟩, .int .i64 0, .int .u8 0, .int .i64 0, .slice none 0 0]⟩,
  ⟨45, .struct [(0, 3), (1, 9), (2, 3), (3, 5), (4, 3), (5, 36)], 6, 72, .agg #[.int .i64 0, .string ⟨#[]⟩, .int .i64 0, .int .u8 0, .int .i64 0, .slice none 0 0]⟩,
  ⟨46, .fn, 1, 8, .nilFunc⟩,
  ⟨47, .fn, 1, 8, .nilFunc⟩,
  ⟨48, .fn, 1, 8, .nilFunc⟩,
  ⟨49, .fn, 1, 8, .nilFunc⟩,
  ⟨50, .ptr 87, 1, 8, .pointer none⟩,
  ⟨51, .fn, 1, 8, .nilFunc⟩,
  ⟨52, .fn, 1, 8, .nilFunc⟩,
  ⟨53, .fn, 1, 8, .nilFunc⟩,
  ⟨54, .fn, 1, 8, .nilFunc⟩,
  ⟨55, .fn, 1, 8, .nilFunc⟩,
  ⟨56, .map 9 60, 1, 8, .map none⟩,
  ⟨57, .struct [(0, 56), (1, 3), (2, 4), (3, 3), (4, 3), (5, 3), (6, 3), (7, 3)], 8, 64, .agg #[.map none, .int .i64 0, .bool false, .int .i64 0, .int .i64 0, .int .i64 0, .int .i64 0, .int .i64 0]⟩,
  ⟨58, .struct [(0, 56), (1, 3), (2, 4), (3, 3), (4, 3), (5, 3), (6, 3), (7, 3)], 8, 64, .agg #[.map none, .int .i64 0, .bool false, .int .i64 0, .int .i64 0, .int .i64 0, .int .i64 0, .int .i64 0]⟩,
  ⟨59, .fn, 1, 8, .nilFunc⟩,
  ⟨60, .ptr 65, 1, 8, .pointer none⟩,
  ⟨62, .fn, 1, 8, .nilFunc⟩,
  ⟨63, .slice 66, 1, 24, .slice none 0 0⟩,
  ⟨64, .struct [(0, 63), (1, 63), (2, 22), (3, 4)], 4, 80, .agg #[.slice none 0 0, .slice none 0 0, .slice none 0 0, .bool false]⟩,
  ⟨65, .struct [(0, 63), (1, 63), (2, 22), (3, 4)], 4, 80, .agg #[.slice none 0 0, .slice none 0 0, .slice none 0 0, .bool false]⟩,
  ⟨66, .ptr 68, 1, 8, .pointer none⟩,
  ⟨67, .struct [(0, 9), (1, 4)], 2, 24, .agg #[.string ⟨#[]⟩, .bool false]⟩,
  ⟨68, .struct [(0, 9), (1, 4)], 2, 24, .agg #[.string ⟨#[]⟩, .bool false]⟩,
  ⟨69, .slice 5, 1, 24, .slice none 0 0⟩,
  ⟨70, .fn, 1, 8, .nilFunc⟩,
  ⟨71, .fn, 1, 8, .nilFunc⟩,
  ⟨72, .fn, 1, 8, .nilFunc⟩,
  ⟨73, .fn, 1, 8, .nilFunc⟩,
  ⟨74, .ptr 76, 1, 8, .pointer none⟩,
  ⟨75, .struct [(0, 74), (1, 69)], 2, 32, .agg #[.pointer none, .slice none 0 0]⟩,
  ⟨76, .struct [(0, 74), (1, 69)], 2, 32, .agg #[.pointer none, .slice none 0 0]⟩,
  ⟨77, .iface, 1, 16, .nilIface⟩,
  ⟨78, .iface, 1, 16, .nilIface⟩,
  ⟨80, .fn, 1, 8, .nilFunc⟩,
  ⟨81, .fn, 1, 8, .nilFunc⟩,
  ⟨82, .fn, 1, 8, .nilFunc⟩,
  ⟨83, .fn, 1, 8, .nilFunc⟩,
  ⟨84, .fn, 1, 8, .nilFunc⟩,
  ⟨85, .slice 91, 1, 24, .slice none 0 0⟩,
  ⟨86, .struct [(0, 85), (1, 3), (2, 4), (3, 3), (4, 3), (5, 3), (6, 3), (7, 3)], 8, 80, .agg #[.slice none 0 0, .int .i64 0, .bool false, .int .i64 0, .int .i64 0, .int .i64 0, .int .i64 0, .int .i64 0]⟩,
  ⟨87, .struct [(0, 85), (1, 3), (2, 4), (3, 3), (4, 3), (5, 3), (6, 3), (7, 3)], 8, 80, .agg #[.slice none 0 0, .int .i64 0, .bool false, .int .i64 0, .int .i64 0, .int .i64 0, .int .i64 0, .int .i64 0]⟩,
  ⟨88, .fn, 1, 8, .nilFunc⟩,
  ⟨89, .slice 93, 1, 24, .slice none 0 0⟩,
  ⟨90, .struct [(0, 9), (1, 89), (2, 89), (3, 22), (4, 4)], 5, 96, .agg #[.string ⟨#[]⟩, .slice none 0 0, .slice none 0 0, .slice none 0 0, .bool false]⟩,
  ⟨91, .struct [(0, 9), (1, 89), (2, 89), (3, 22), (4, 4)], 5, 96, .agg #[.string ⟨#[]⟩, .slice none 0 0, .slice none 0 0, .slice none 0 0, .bool false]⟩,
  ⟨92, .struct [(0, 4), (1, 9), (2, 4)], 3, 32, .agg #[.bool false, .string ⟨#[]⟩, .bool false]⟩,
  ⟨93, .struct [(0, 4), (1, 9), (2, 4)], 3, 32, .agg #[.bool false, .string ⟨#[]⟩, .bool false]⟩,
  ⟨94, .fn, 1, 8, .nilFunc⟩,
  ⟨95, .fn, 1, 8, .nilFunc⟩,
  ⟨96, .fn, 1, 8, .nilFunc⟩,
  ⟨97, .fn, 1, 8, .nilFunc⟩,
  ⟨99, .fn, 1, 8, .nilFunc⟩,
  ⟨100, .fn, 1, 8, .nilFunc⟩,
  ⟨101, .ptr 5, 1, 8, .pointer none⟩,
  ⟨103, .fn, 1, 8, .nilFunc⟩,
  ⟨104, .fn, 1, 8, .nilFunc⟩,
  ⟨105, .fn, 1, 8, .nilFunc⟩,
  ⟨106, .fn, 1, 8, .nilFunc⟩,
  ⟨108, .fn, 1, 8, .nilFunc⟩,
  ⟨109, .int .u32, 1, 4, .int .u32 0⟩,
  ⟨111, .fn, 1, 8, .nilFunc⟩,
  ⟨112, .int .u64, 1, 8, .int .u64 0⟩,
  ⟨114, .fn, 1, 8, .nilFunc⟩,
  ⟨115, .fn, 1, 8, .nilFunc⟩,
  ⟨116, .int .i64, 1, 8, .int .i64 0⟩,
  ⟨118, .fn, 1, 8, .nilFunc⟩,
  ⟨119, .fn, 1, 8, .nilFunc⟩,
  ⟨120, .fn, 1, 8, .nilFunc⟩,
  ⟨122, .fn, 1, 8, .nilFunc⟩,
  ⟨123, .fn, 1, 8, .nilFunc⟩,
  ⟨124, .fn, 1, 8, .nilFunc⟩,
  ⟨125, .fn, 1, 8, .nilFunc⟩,
  ⟨126, .int .u64, 1, 8, .int .u64 0⟩,
  ⟨127, .fn, 1, 8, .nilFunc⟩,
  ⟨128, .fn, 1, 8, .nilFunc⟩,
  ⟨129, .fn, 1, 8, .nilFunc⟩,
  ⟨130, .ptr 3, 1, 8, .pointer none⟩,
  ⟨131, .fn, 1, 8, .nilFunc⟩,
  ⟨132, .ptr 126, 1, 8, .pointer none⟩,
  ⟨134, .fn, 1, 8, .nilFunc⟩,
  ⟨135, .struct [(0, 17), (1, 17), (2, 17), (3, 9)], 4, 40, .agg #[.pointer none, .pointer none, .pointer none, .string ⟨#[]⟩]⟩,
  ⟨136, .struct [(0, 17), (1, 17), (2, 17), (3, 9)], 4, 40, .agg #[.pointer none, .pointer none, .pointer none, .string ⟨#[]⟩]⟩,
  ⟨137, .array 0 16, 0, 0, .agg #[]⟩,
  ⟨138, .struct [(0, 137)], 0, 0, .agg #[]⟩,
  ⟨139, .struct [(0, 137)], 0, 0, .agg #[]⟩,
  ⟨140, .int .u8, 1, 1, .int .u8 0⟩,
  ⟨141, .int .u8, 1, 1, .int .u8 0⟩,
  ⟨142, .fn, 1, 8, .nilFunc⟩,
  ⟨143, .int .i32, 1, 4, .int .i32 0⟩,
  ⟨144, .int .i32, 1, 4, .int .i32 0⟩,
  ⟨145, .struct [(0, 12), (1, 12), (2, 109), (3, 140), (4, 5), (5, 5), (6, 141), (7, 142), (8, 101), (9, 143), (10, 144)], 11, 48, .agg #[.int .u64 0, .int .u64 0, .int .u32 0, .int .u8 0, .int .u8 0, .int .u8 0, .int .u8 0, .nilFunc, .pointer none, .int .i32 0, .int .i32 0]⟩,
  ⟨146, .struct [(0, 12), (1, 12), (2, 109), (3, 140), (4, 5), (5, 5), (6, 141), (7, 142), (8, 101), (9, 143), (10, 144)], 11, 48, .agg #[.int .u64 0, .int .u64 0, .int .u32 0, .int .u8 0, .int .u8 0, .int .u8 0, .int .u8 0, .nilFunc, .pointer none, .int .i32 0, .int .i32 0]⟩]
theorem tab1 : RowOk Try.prog ⟨1, .fn, 1, 8, .nilFunc⟩ := ⟨⟨_, _, _, Try.underlying1⟩, by kernel_rfl⟩
theorem tab2 : RowOk Try.prog ⟨2, .int .i64, 1, 8, .int .i64 0⟩ := ⟨Try.underlying2, by kernel_rfl⟩
theorem tab3 : RowOk Try.prog ⟨3, .int .i64, 1, 8, .int .i64 0⟩ := ⟨Try.underlying3, by kernel_rfl⟩
theorem tab4 : RowOk Try.prog ⟨4, .bool, 1, 1, .bool false⟩ := ⟨Try.underlying4, by kernel_rfl⟩
theorem tab5 : RowOk Try.prog ⟨5, .int .u8, 1, 1, .int .u8 0⟩ := ⟨Try.underlying5, by kernel_rfl⟩
theorem tab6 : RowOk Try.prog ⟨6, .int .u8, 1, 1, .int .u8 0⟩ := ⟨Try.underlying6, by kernel_rfl⟩
theorem tab7 : RowOk Try.prog ⟨7, .struct [(0, 2), (1, 3), (2, 4), (3, 6)], 4, 24, .agg #[.int .i64 0, .int .i64 0, .bool false, .int .u8 0]⟩ := ⟨⟨_, Try.underlying7, by kernel_rfl⟩, by kernel_rfl⟩
theorem tab8 : RowOk Try.prog ⟨8, .struct [(0, 2), (1, 3), (2, 4), (3, 6)], 4, 24, .agg #[.int .i64 0, .int .i64 0, .bool false, .int .u8 0]⟩ := ⟨⟨_, Try.underlying8, by kernel_rfl⟩, by kernel_rfl⟩
theorem tab9 : RowOk Try.prog ⟨9, .string, 1, 16, .string ⟨#[]⟩⟩ := ⟨Try.underlying9, by kernel_rfl⟩
theorem tab10 : RowOk Try.prog ⟨10, .string, 1, 16, .string ⟨#[]⟩⟩ := ⟨Try.underlying10, by kernel_rfl⟩
theorem tab11 : RowOk Try.prog ⟨11, .string, 1, 16, .string ⟨#[]⟩⟩ := ⟨Try.underlying11, by kernel_rfl⟩
theorem tab12 : RowOk Try.prog ⟨12, .int .u64, 1, 8, .int .u64 0⟩ := ⟨Try.underlying12, by kernel_rfl⟩
theorem tab13 : RowOk Try.prog ⟨13, .struct [(0, 9), (1, 12)], 2, 24, .agg #[.string ⟨#[]⟩, .int .u64 0]⟩ := ⟨⟨_, Try.underlying13, by kernel_rfl⟩, by kernel_rfl⟩
theorem tab14 : RowOk Try.prog ⟨14, .struct [(0, 9), (1, 12)], 2, 24, .agg #[.string ⟨#[]⟩, .int .u64 0]⟩ := ⟨⟨_, Try.underlying14, by kernel_rfl⟩, by kernel_rfl⟩
theorem tab15 : RowOk Try.prog ⟨15, .ptr 136, 1, 8, .pointer none⟩ := ⟨Try.underlying15, by kernel_rfl⟩
theorem tab16 : RowOk Try.prog ⟨16, .ptr 139, 1, 8, .pointer none⟩ := ⟨Try.underlying16, by kernel_rfl⟩
theorem tab17 : RowOk Try.prog ⟨17, .ptr 146, 1, 8, .pointer none⟩ := ⟨Try.underlying17, by kernel_rfl⟩
theorem tab18 : RowOk Try.prog ⟨18, .struct [(0, 17)], 1, 8, .agg #[.pointer none]⟩ := ⟨⟨_, Try.underlying18, by kernel_rfl⟩, by kernel_rfl⟩
theorem tab19 : RowOk Try.prog ⟨19, .struct [(0, 17)], 1, 8, .agg #[.pointer none]⟩ := ⟨⟨_, Try.underlying19, by kernel_rfl⟩, by kernel_rfl⟩
theorem tab20 : RowOk Try.prog ⟨20, .iface, 1, 16, .nilIface⟩ := ⟨⟨_, Try.underlying20⟩, by kernel_rfl⟩
theorem tab21 : RowOk Try.prog ⟨21, .int .i32, 1, 4, .int .i32 0⟩ := ⟨Try.underlying21, by kernel_rfl⟩
theorem tab22 : RowOk Try.prog ⟨22, .slice 4, 1, 24, .slice none 0 0⟩ := ⟨Try.underlying22, by kernel_rfl⟩
theorem tab23 : RowOk Try.prog ⟨23, .fn, 1, 8, .nilFunc⟩ := ⟨⟨_, _, _, Try.underlying23⟩, by kernel_rfl⟩
theorem tab24 : RowOk Try.prog ⟨24, .int .u64, 1, 8, .int .u64 0⟩ := ⟨Try.underlying24, by kernel_rfl⟩
theorem tab25 : RowOk Try.prog ⟨25, .ptr 58, 1, 8, .pointer none⟩ := ⟨Try.underlying25, by kernel_rfl⟩
theorem tab26 : RowOk Try.prog ⟨26, .fn, 1, 8, .nilFunc⟩ := ⟨⟨_, _, _, Try.underlying26⟩, by kernel_rfl⟩
theorem tab27 : RowOk Try.prog ⟨27, .int .i64, 1, 8, .int .i64 0⟩ := ⟨Try.underlying27, by kernel_rfl⟩
theorem tab28 : RowOk Try.prog ⟨28, .fn, 1, 8, .nilFunc⟩ := ⟨⟨_, _, _, Try.underlying28⟩, by kernel_rfl⟩
theorem tab29 : RowOk Try.prog ⟨29, .fn, 1, 8, .nilFunc⟩ := ⟨⟨_, _, _, Try.underlying29⟩, by kernel_rfl⟩
theorem tab30 : RowOk Try.prog ⟨30, .fn, 1, 8, .nilFunc⟩ := ⟨⟨_, _, _, Try.underlying30⟩, by kernel_rfl⟩
theorem tab31 : RowOk Try.prog ⟨31, .fn, 1, 8, .nilFunc⟩ := ⟨⟨_, _, _, Try.underlying31⟩, by kernel_rfl⟩
theorem tab32 : RowOk Try.prog ⟨32, .fn, 1, 8, .nilFunc⟩ := ⟨⟨_, _, _, Try.underlying32⟩, by kernel_rfl⟩
theorem tab33 : RowOk Try.prog ⟨33, .fn, 1, 8, .nilFunc⟩ := ⟨⟨_, _, _, Try.underlying33⟩, by kernel_rfl⟩
theorem tab34 : RowOk Try.prog ⟨34, .fn, 1, 8, .nilFunc⟩ := ⟨⟨_, _, _, Try.underlying34⟩, by kernel_rfl⟩
theorem tab35 : RowOk Try.prog ⟨35, .slice 45, 1, 24, .slice none 0 0⟩ := ⟨Try.underlying35, by kernel_rfl⟩
theorem tab36 : RowOk Try.prog ⟨36, .slice 3, 1, 24, .slice none 0 0⟩ := ⟨Try.underlying36, by kernel_rfl⟩
theorem tab37 : RowOk Try.prog ⟨37, .fn, 1, 8, .nilFunc⟩ := ⟨⟨_, _, _, Try.underlying37⟩, by kernel_rfl⟩
theorem tab38 : RowOk Try.prog ⟨38, .slice 9, 1, 24, .slice none 0 0⟩ := ⟨Try.underlying38, by kernel_rfl⟩
theorem tab39 : RowOk Try.prog ⟨39, .fn, 1, 8, .nilFunc⟩ := ⟨⟨_, _, _, Try.underlying39⟩, by kernel_rfl⟩
theorem tab40 : RowOk Try.prog ⟨40, .fn, 1, 8, .nilFunc⟩ := ⟨⟨_, _, _, Try.underlying40⟩, by kernel_rfl⟩
theorem tab41 : RowOk Try.prog ⟨41, .fn, 1, 8, .nilFunc⟩ := ⟨⟨_, _, _, Try.underlying41⟩, by kernel_rfl⟩
theorem tab43 : RowOk Try.prog ⟨43, .fn, 1, 8, .nilFunc⟩ := ⟨⟨_, _, _, Try.underlying43⟩, by kernel_rfl⟩
theorem tab44 : RowOk Try.prog ⟨44, .struct [(0, 3), (1, 9), (2, 3), (3, 5), (4, 3), (5, 36)], 6, 72, .agg #[.int .i64 0, .string ⟨#[]⟩, .int .i64 0, .int .u8 0, .int .i64 0, .slice none 0 0]⟩ := ⟨⟨_, Try.underlying44, by kernel_rfl⟩, by kernel_rfl⟩
theorem tab45 : RowOk Try.prog ⟨45, .struct [(0, 3), (1, 9), (2, 3), (3, 5), (4, 3), (5, 36)], 6, 72, .agg #[.int .i64 0, .string ⟨#[]⟩, .int .i64 0, .int .u8 0, .int .i64 0, .slice none 0 0]⟩ := ⟨⟨_, Try.underlying45, by kernel_rfl⟩, by kernel_rfl⟩
theorem tab46 : RowOk Try.prog ⟨46, .fn, 1, 8, .nilFunc⟩ := ⟨⟨_, _, _, Try.underlying46⟩, by kernel_rfl⟩
theorem tab47 : RowOk Try.prog ⟨47, .fn, 1, 8, .nilFunc⟩ := ⟨⟨_, _, _, Try.underlying47⟩, by kernel_rfl⟩
theorem tab48 : RowOk Try.prog ⟨48, .fn, 1, 8, .nilFunc⟩ := ⟨⟨_, _, _, Try.underlying48⟩, by kernel_rfl⟩
theorem tab49 : RowOk Try.prog ⟨49, .fn, 1, 8, .nilFunc⟩ := ⟨⟨_, _, _, Try.underlying49⟩, by kernel_rfl⟩
theorem tab50 : RowOk Try.prog ⟨50, .ptr 87, 1, 8, .pointer none⟩ := ⟨Try.underlying50, by kernel_rfl⟩
theorem tab51 : RowOk Try.prog ⟨51, .fn, 1, 8, .nilFunc⟩ := ⟨⟨_, _, _, Try.underlying51⟩, by kernel_rfl⟩
theorem tab52 : RowOk Try.prog ⟨52, .fn, 1, 8, .nilFunc⟩ := ⟨⟨_, _, _, Try.underlying52⟩, by kernel_rfl⟩
theorem tab53 : RowOk Try.prog ⟨53, .fn, 1, 8, .nilFunc⟩ := ⟨⟨_, _, _, Try.underlying53⟩, by kernel_rfl⟩
theorem tab54 : RowOk Try.prog ⟨54, .fn, 1, 8, .nilFunc⟩ := ⟨⟨_, _, _, Try.underlying54⟩, by kernel_rfl⟩
theorem tab55 : RowOk Try.prog ⟨55, .fn, 1, 8, .nilFunc⟩ := ⟨⟨_, _, _, Try.underlying55⟩, by kernel_rfl⟩
theorem tab56 : RowOk Try.prog ⟨56, .map 9 60, 1, 8, .map none⟩ := ⟨Try.underlying56, by kernel_rfl⟩
theorem tab57 : RowOk Try.prog ⟨57, .struct [(0, 56), (1, 3), (2, 4), (3, 3), (4, 3), (5, 3), (6, 3), (7, 3)], 8, 64, .agg #[.map none, .int .i64 0, .bool false, .int .i64 0, .int .i64 0, .int .i64 0, .int .i64 0, .int .i64 0]⟩ := ⟨⟨_, Try.underlying57, by kernel_rfl⟩, by kernel_rfl⟩
theorem tab58 : RowOk Try.prog ⟨58, .struct [(0, 56), (1, 3), (2, 4), (3, 3), (4, 3), (5, 3), (6, 3), (7, 3)], 8, 64, .agg #[.map none, .int .i64 0, .bool false, .int .i64 0, .int .i64 0, .int .i64 0, .int .i64 0, .int .i64 0]⟩ := ⟨⟨_, Try.underlying58, by kernel_rfl⟩, by kernel_rfl⟩
theorem tab59 : RowOk Try.prog ⟨59, .fn, 1, 8, .nilFunc⟩ := ⟨⟨_, _, _, Try.underlying59⟩, by kernel_rfl⟩
theorem tab60 : RowOk Try.prog ⟨60, .ptr 65, 1, 8, .pointer none⟩ := ⟨Try.underlying60, by kernel_rfl⟩
theorem tab62 : RowOk Try.prog ⟨62, .fn, 1, 8, .nilFunc⟩ := ⟨⟨_, _, _, Try.underlying62⟩, by kernel_rfl⟩
theorem tab63 : RowOk Try.prog ⟨63, .slice 66, 1, 24, .slice none 0 0⟩ := ⟨Try.underlying63, by kernel_rfl⟩
theorem tab64 : RowOk Try.prog ⟨64, .struct [(0, 63), (1, 63), (2, 22), (3, 4)], 4, 80, .agg #[.slice none 0 0, .slice none 0 0, .slice none 0 0, .bool false]⟩ := ⟨⟨_, Try.underlying64, by kernel_rfl⟩, by kernel_rfl⟩
theorem tab65 : RowOk Try.prog ⟨65, .struct [(0, 63), (1, 63), (2, 22), (3, 4)], 4, 80, .agg #[.slice none 0 0, .slice none 0 0, .slice none 0 0, .bool false]⟩ := ⟨⟨_, Try.underlying65, by kernel_rfl⟩, by kernel_rfl⟩
theorem tab66 : RowOk Try.prog ⟨66, .ptr 68, 1, 8, .pointer none⟩ := ⟨Try.underlying66, by kernel_rfl⟩
theorem tab67 : RowOk Try.prog ⟨67, .struct [(0, 9), (1, 4)], 2, 24, .agg #[.string ⟨#[]⟩, .bool false]⟩ := ⟨⟨_, Try.underlying67, by kernel_rfl⟩, by kernel_rfl⟩
theorem tab68 : RowOk Try.prog ⟨68, .struct [(0, 9), (1, 4)], 2, 24, .agg #[.string ⟨#[]⟩, .bool false]⟩ := ⟨⟨_, Try.underlying68, by kernel_rfl⟩, by kernel_rfl⟩
theorem tab69 : RowOk Try.prog ⟨69, .slice 5, 1, 24, .slice none 0 0⟩ := ⟨Try.underlying69, by kernel_rfl⟩
theorem tab70 : RowOk Try.prog ⟨70, .fn, 1, 8, .nilFunc⟩ := ⟨⟨_, _, _, Try.underlying70⟩, by kernel_rfl⟩
theorem tab71 : RowOk Try.prog ⟨71, .fn, 1, 8, .nilFunc⟩ := ⟨⟨_, _, _, Try.underlying71⟩, by kernel_rfl⟩
theorem tab72 : RowOk Try.prog ⟨72, .fn, 1, 8, .nilFunc⟩ := ⟨⟨_, _, _, Try.underlying72⟩, by kernel_rfl⟩
theorem tab73 : RowOk Try.prog ⟨73, .fn, 1, 8, .nilFunc⟩ := ⟨⟨_, _, _, Try.underlying73⟩, by kernel_rfl⟩
theorem tab74 : RowOk Try.prog ⟨74, .ptr 76, 1, 8, .pointer none⟩ := ⟨Try.underlying74, by kernel_rfl⟩
theorem tab75 : RowOk Try.prog ⟨75, .struct [(0, 74), (1, 69)], 2, 32, .agg #[.pointer none, .slice none 0 0]⟩ := ⟨⟨_, Try.underlying75, by kernel_rfl⟩, by kernel_rfl⟩
theorem tab76 : RowOk Try.prog ⟨76, .struct [(0, 74), (1, 69)], 2, 32, .agg #[.pointer none, .slice none 0 0]⟩ := ⟨⟨_, Try.underlying76, by kernel_rfl⟩, by kernel_rfl⟩
theorem tab77 : RowOk Try.prog ⟨77, .iface, 1, 16, .nilIface⟩ := ⟨⟨_, Try.underlying77⟩, by kernel_rfl⟩
theorem tab78 : RowOk Try.prog ⟨78, .iface, 1, 16, .nilIface⟩ := ⟨⟨_, Try.underlying78⟩, by kernel_rfl⟩
theorem tab80 : RowOk Try.prog ⟨80, .fn, 1, 8, .nilFunc⟩ := ⟨⟨_, _, _, Try.underlying80⟩, by kernel_rfl⟩
theorem tab81 : RowOk Try.prog ⟨81, .fn, 1, 8, .nilFunc⟩ := ⟨⟨_, _, _, Try.underlying81⟩, by kernel_rfl⟩
theorem tab82 : RowOk Try.prog ⟨82, .fn, 1, 8, .nilFunc⟩ := ⟨⟨_, _, _, Try.underlying82⟩, by kernel_rfl⟩
theorem tab83 : RowOk Try.prog ⟨83, .fn, 1, 8, .nilFunc⟩ := ⟨⟨_, _, _, Try.underlying83⟩, by kernel_rfl⟩
theorem tab84 : RowOk Try.prog ⟨84, .fn, 1, 8, .nilFunc⟩ := ⟨⟨_, _, _, Try.underlying84⟩, by kernel_rfl⟩
theorem tab85 : RowOk Try.prog ⟨85, .slice 91, 1, 24, .slice none 0 0⟩ := ⟨Try.underlying85, by kernel_rfl⟩
theorem tab86 : RowOk Try.prog ⟨86, .struct [(0, 85), (1, 3), (2, 4), (3, 3), (4, 3), (5, 3), (6, 3), (7, 3)], 8, 80, .agg #[.slice none 0 0, .int .i64 0, .bool false, .int .i64 0, .int .i64 0, .int .i64 0, .int .i64 0, .int .i64 0]⟩ := ⟨⟨_, Try.underlying86, by kernel_rfl⟩, by kernel_rfl⟩
theorem tab87 : RowOk Try.prog ⟨87, .struct [(0, 85), (1, 3), (2, 4), (3, 3), (4, 3), (5, 3), (6, 3), (7, 3)], 8, 80, .agg #[.slice none 0 0, .int .i64 0, .bool false, .int .i64 0, .int .i64 0, .int .i64 0, .int .i64 0, .int .i64 0]⟩ := ⟨⟨_, Try.underlying87, by kernel_rfl⟩, by kernel_rfl⟩
theorem tab88 : RowOk Try.prog ⟨88, .fn, 1, 8, .nilFunc⟩ := ⟨⟨_, _, _, Try.underlying88⟩, by kernel_rfl⟩
theorem tab89 : RowOk Try.prog ⟨89, .slice 93, 1, 24, .slice none 0 0⟩ := ⟨Try.underlying89, by kernel_rfl⟩
theorem tab90 : RowOk Try.prog ⟨90, .struct [(0, 9), (1, 89), (2, 89), (3, 22), (4, 4)], 5, 96, .agg #[.string ⟨#[]⟩, .slice none 0 0, .slice none 0 0, .slice none 0 0, .bool false]⟩ := ⟨⟨_, Try.underlying90, by kernel_rfl⟩, by kernel_rfl⟩
theorem tab91 : RowOk Try.prog ⟨91, .struct [(0, 9), (1, 89), (2, 89), (3, 22), (4, 4)], 5, 96, .agg #[.string ⟨#[]⟩, .slice none 0 0, .slice none 0 0, .slice none 0 0, .bool false]⟩ := ⟨⟨_, Try.underlying91, by kernel_rfl⟩, by kernel_rfl⟩
theorem tab92 : RowOk Try.prog ⟨92, .struct [(0, 4), (1, 9), (2, 4)], 3, 32, .agg #[.bool false, .string ⟨#[]⟩, .bool false]⟩ := ⟨⟨_, Try.underlying92, by kernel_rfl⟩, by kernel_rfl⟩
theorem tab93 : RowOk Try.prog ⟨93, .struct [(0, 4), (1, 9), (2, 4)], 3, 32, .agg #[.bool false, .string ⟨#[]⟩, .bool false]⟩ := ⟨⟨_, Try.underlying93, by kernel_rfl⟩, by kernel_rfl⟩
theorem tab94 : RowOk Try.prog ⟨94, .fn, 1, 8, .nilFunc⟩ := ⟨⟨_, _, _, Try.underlying94⟩, by kernel_rfl⟩
theorem tab95 : RowOk Try.prog ⟨95, .fn, 1, 8, .nilFunc⟩ := ⟨⟨_, _, _, Try.underlying95⟩, by kernel_rfl⟩
theorem tab96 : RowOk Try.prog ⟨96, .fn, 1, 8, .nilFunc⟩ := ⟨⟨_, _, _, Try.underlying96⟩, by kernel_rfl⟩
theorem tab97 : RowOk Try.prog ⟨97, .fn, 1, 8, .nilFunc⟩ := ⟨⟨_, _, _, Try.underlying97⟩, by kernel_rfl⟩
theorem tab99 : RowOk Try.prog ⟨99, .fn, 1, 8, .nilFunc⟩ := ⟨⟨_, _, _, Try.underlying99⟩, by kernel_rfl⟩
theorem tab100 : RowOk Try.prog ⟨100, .fn, 1, 8, .nilFunc⟩ := ⟨⟨_, _, _, Try.underlying100⟩, by kernel_rfl⟩
theorem tab101 : RowOk Try.prog ⟨101, .ptr 5, 1, 8, .pointer none⟩ := ⟨Try.underlying101, by kernel_rfl⟩
theorem tab103 : RowOk Try.prog ⟨103, .fn, 1, 8, .nilFunc⟩ := ⟨⟨_, _, _, Try.underlying103⟩, by kernel_rfl⟩
theorem tab104 : RowOk Try.prog ⟨104, .fn, 1, 8, .nilFunc⟩ := ⟨⟨_, _, _, Try.underlying104⟩, by kernel_rfl⟩
theorem tab105 : RowOk Try.prog ⟨105, .fn, 1, 8, .nilFunc⟩ := ⟨⟨_, _, _, Try.underlying105⟩, by kernel_rfl⟩
theorem tab106 : RowOk Try.prog ⟨106, .fn, 1, 8, .nilFunc⟩ := ⟨⟨_, _, _, Try.underlying106⟩, by kernel_rfl⟩
theorem tab108 : RowOk Try.prog ⟨108, .fn, 1, 8, .nilFunc⟩ := ⟨⟨_, _, _, Try.underlying108⟩, by kernel_rfl⟩
theorem tab109 : RowOk Try.prog ⟨109, .int .u32, 1, 4, .int .u32 0⟩ := ⟨Try.underlying109, by kernel_rfl⟩
theorem tab111 : RowOk Try.prog ⟨111, .fn, 1, 8, .nilFunc⟩ := ⟨⟨_, _, _, Try.underlying111⟩, by kernel_rfl⟩
theorem tab112 : RowOk Try.prog ⟨112, .int .u64, 1, 8, .int .u64 0⟩ := ⟨Try.underlying112, by kernel_rfl⟩
theorem tab114 : RowOk Try.prog ⟨114, .fn, 1, 8, .nilFunc⟩ := ⟨⟨_, _, _, Try.underlying114⟩, by kernel_rfl⟩
theorem tab115 : RowOk Try.prog ⟨115, .fn, 1, 8, .nilFunc⟩ := ⟨⟨_, _, _, Try.underlying115⟩, by kernel_rfl⟩
theorem tab116 : RowOk Try.prog ⟨116, .int .i64, 1, 8, .int .i64 0⟩ := ⟨Try.underlying116, by kernel_rfl⟩
theorem tab118 : RowOk Try.prog ⟨118, .fn, 1, 8, .nilFunc⟩ := ⟨⟨_, _, _, Try.underlying118⟩, by kernel_rfl⟩
theorem tab119 : RowOk Try.prog ⟨119, .fn, 1, 8, .nilFunc⟩ := ⟨⟨_, _, _, Try.underlying119⟩, by kernel_rfl⟩
theorem tab120 : RowOk Try.prog ⟨120, .fn, 1, 8, .nilFunc⟩ := ⟨⟨_, _, _, Try.underlying120⟩, by kernel_rfl⟩
theorem tab122 : RowOk Try.prog ⟨122, .fn, 1, 8, .nilFunc⟩ := ⟨⟨_, _, _, Try.underlying122⟩, by kernel_rfl⟩
theorem tab123 : RowOk Try.prog ⟨123, .fn, 1, 8, .nilFunc⟩ := ⟨⟨_, _, _, Try.underlying123⟩, by kernel_rfl⟩
theorem tab124 : RowOk Try.prog ⟨124, .fn, 1, 8, .nilFunc⟩ := ⟨⟨_, _, _, Try.underlying124⟩, by kernel_rfl⟩
theorem tab125 : RowOk Try.prog ⟨125, .fn, 1, 8, .nilFunc⟩ := ⟨⟨_, _, _, Try.underlying125⟩, by kernel_rfl⟩
theorem tab126 : RowOk Try.prog ⟨126, .int .u64, 1, 8, .int .u64 0⟩ := ⟨Try.underlying126, by kernel_rfl⟩
theorem tab127 : RowOk Try.prog ⟨127, .fn, 1, 8, .nilFunc⟩ := ⟨⟨_, _, _, Try.underlying127⟩, by kernel_rfl⟩
theorem tab128 : RowOk Try.prog ⟨128, .fn, 1, 8, .nilFunc⟩ := ⟨⟨_, _, _, Try.underlying128⟩, by kernel_rfl⟩
theorem tab129 : RowOk Try.prog ⟨129, .fn, 1, 8, .nilFunc⟩ := ⟨⟨_, _, _, Try.underlying129⟩, by kernel_rfl⟩
theorem tab130 : RowOk Try.prog ⟨130, .ptr 3, 1, 8, .pointer none⟩ := ⟨Try.underlying130, by kernel_rfl⟩
theorem tab131 : RowOk Try.prog ⟨131, .fn, 1, 8, .nilFunc⟩ := ⟨⟨_, _, _, Try.underlying131⟩, by kernel_rfl⟩
theorem tab132 : RowOk Try.prog ⟨132, .ptr 126, 1, 8, .pointer none⟩ := ⟨Try.underlying132, by kernel_rfl⟩
theorem tab134 : RowOk Try.prog ⟨134, .fn, 1, 8, .nilFunc⟩ := ⟨⟨_, _, _, Try.underlying134⟩, by kernel_rfl⟩
theorem tab135 : RowOk Try.prog ⟨135, .struct [(0, 17), (1, 17), (2, 17), (3, 9)], 4, 40, .agg #[.pointer none, .pointer none, .pointer none, .string ⟨#[]⟩]⟩ := ⟨⟨_, Try.underlying135, by kernel_rfl⟩, by kernel_rfl⟩
theorem tab136 : RowOk Try.prog ⟨136, .struct [(0, 17), (1, 17), (2, 17), (3, 9)], 4, 40, .agg #[.pointer none, .pointer none, .pointer none, .string ⟨#[]⟩]⟩ := ⟨⟨_, Try.underlying136, by kernel_rfl⟩, by kernel_rfl⟩
theorem tab137 : RowOk Try.prog ⟨137, .array 0 16, 0, 0, .agg #[]⟩ := ⟨Try.underlying137, by kernel_rfl⟩
theorem tab138 : RowOk Try.prog ⟨138, .struct [(0, 137)], 0, 0, .agg #[]⟩ := ⟨⟨_, Try.underlying138, by kernel_rfl⟩, by kernel_rfl⟩
theorem tab139 : RowOk Try.prog ⟨139, .struct [(0, 137)], 0, 0, .agg #[]⟩ := ⟨⟨_, Try.underlying139, by kernel_rfl⟩, by kernel_rfl⟩
theorem tab140 : RowOk Try.prog ⟨140, .int .u8, 1, 1, .int .u8 0⟩ := ⟨Try.underlying140, by kernel_rfl⟩
theorem tab141 : RowOk Try.prog ⟨141, .int .u8, 1, 1, .int .u8 0⟩ := ⟨Try.underlying141, by kernel_rfl⟩
theorem tab142 : RowOk Try.prog ⟨142, .fn, 1, 8, .nilFunc⟩ := ⟨⟨_, _, _, Try.underlying142⟩, by kernel_rfl⟩
theorem tab143 : RowOk Try.prog ⟨143, .int .i32, 1, 4, .int .i32 0⟩ := ⟨Try.underlying143, by kernel_rfl⟩
theorem tab144 : RowOk Try.prog ⟨144, .int .i32, 1, 4, .int .i32 0⟩ := ⟨Try.underlying144, by kernel_rfl⟩
theorem tab145 : RowOk Try.prog ⟨145, .struct [(0, 12), (1, 12), (2, 109), (3, 140), (4, 5), (5, 5), (6, 141), (7, 142), (8, 101), (9, 143), (10, 144)], 11, 48, .agg #[.int .u64 0, .int .u64 0, .int .u32 0, .int .u8 0, .int .u8 0, .int .u8 0, .int .u8 0, .nilFunc, .pointer none, .int .i32 0, .int .i32 0]⟩ := ⟨⟨_, Try.underlying145, by kernel_rfl⟩, by kernel_rfl⟩
theorem tab146 : RowOk Try.prog ⟨146, .struct [(0, 12), (1, 12), (2, 109), (3, 140), (4, 5), (5, 5), (6, 141), (7, 142), (8, 101), (9, 143), (10, 144)], 11, 48, .agg #[.int .u64 0, .int .u64 0, .int .u32 0, .int .u8 0, .int .u8 0, .int .u8 0, .int .u8 0, .nilFunc, .pointer none, .int .i32 0, .int .i32 0]⟩ := ⟨⟨_, Try.underlying146, by kernel_rfl⟩, by kernel_rfl⟩
theorem tabOk : TabOk Try.prog tab :=
  .cons tab1 <|
  .cons tab2 <|
  .cons tab3 <|
  .cons tab4 <|
  .cons tab5 <|
  .cons tab6 <|
  .cons tab7 <|
  .cons tab8 <|
  .cons tab9 <|
  .cons tab10 <|
  .cons tab11 <|
  .cons tab12 <|
  .cons tab13 <|
  .cons tab14 <|
  .cons tab15 <|
  .cons tab16 <|
  .cons tab17 <|
  .cons tab18 <|
  .cons tab19 <|
  .cons tab20 <|
  .cons tab21 <|
  .cons tab22 <|
  .cons tab23 <|
  .cons tab24 <|
  .cons tab25 <|
  .cons tab26 <|
  .cons tab27 <|
  .cons tab28 <|
  .cons tab29 <|
  .cons tab30 <|
  .cons tab31 <|
  .cons tab32 <|
  .cons tab33 <|
  .cons tab34 <|
  .cons tab35 <|
  .cons tab36 <|
  .cons tab37 <|
  .cons tab38 <|
  .cons tab39 <|
  .cons tab40 <|
  .cons tab41 <|
  .cons tab43 <|
  .cons tab44 <|
  .cons tab45 <|
  .cons tab46 <|
  .cons tab47 <|
  .cons tab48 <|
  .cons tab49 <|
  .cons tab50 <|
  .cons tab51 <|
  .cons tab52 <|
  .cons tab53 <|
  .cons tab54 <|
  .cons tab55 <|
  .cons tab56 <|
  .cons tab57 <|
  .cons tab58 <|
  .cons tab59 <|
  .cons tab60 <|
  .cons tab62 <|
  .cons tab63 <|
  .cons tab64 <|
  .cons tab65 <|
  .cons tab66 <|
  .cons tab67 <|
  .cons tab68 <|
  .cons tab69 <|
  .cons tab70 <|
  .cons tab71 <|
  .cons tab72 <|
  .cons tab73 <|
  .cons tab74 <|
  .cons tab75 <|
  .cons tab76 <|
  .cons tab77 <|
  .cons tab78 <|
  .cons tab80 <|
  .cons tab81 <|
  .cons tab82 <|
  .cons tab83 <|
  .cons tab84 <|
  .cons tab85 <|
  .cons tab86 <|
  .cons tab87 <|
  .cons tab88 <|
  .cons tab89 <|
  .cons tab90 <|
  .cons tab91 <|
  .cons tab92 <|
  .cons tab93 <|
  .cons tab94 <|
  .cons tab95 <|
  .cons tab96 <|
  .cons tab97 <|
  .cons tab99 <|
  .cons tab100 <|
  .cons tab101 <|
  .cons tab103 <|
  .cons tab104 <|
  .cons tab105 <|
  .cons tab106 <|
  .cons tab108 <|
  .cons tab109 <|
  .cons tab111 <|
  .cons tab112 <|
  .cons tab114 <|
  .cons tab115 <|
  .cons tab116 <|
  .cons tab118 <|
  .cons tab119 <|
  .cons tab120 <|
  .cons tab122 <|
  .cons tab123 <|
  .cons tab124 <|
  .cons tab125 <|
  .cons tab126 <|
  .cons tab127 <|
  .cons tab128 <|
  .cons tab129 <|
  .cons tab130 <|
  .cons tab131 <|
  .cons tab132 <|
  .cons tab134 <|
  .cons tab135 <|
  .cons tab136 <|
  .cons tab137 <|
  .cons tab138 <|
  .cons tab139 <|
  .cons tab140 <|
  .cons tab141 <|
  .cons tab142 <|
  .cons tab143 <|
  .cons tab144 <|
  .cons tab145 <|
  .cons tab146 <| .nil
theorem mixed : Try.prog.follows .mixedOrders = true := by kernel_rfl
end Go.Proofs.Ytdgmjjidkaafaaa
