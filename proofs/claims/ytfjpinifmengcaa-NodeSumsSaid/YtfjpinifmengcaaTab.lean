/- The table of types of this seat, and that it is right. -/
import Derived.Test.YtfjpinifmengcaaRows
import Derived.Test.YtfjpinifmengcaaEngL
namespace Go.Proofs.Ytfjpinifmengcaa
open Go.RowKit
def tab : Tab := [
  ⟨1, .fn, 1, 8, .nilFunc⟩,
  ⟨2, .int .i64, 1, 8, .int .i64 0⟩,
  ⟨3, .int .i64, 1, 8, .int .i64 0⟩,
  ⟨4, .bool, 1, 1, .bool false⟩,
  ⟨5, .int .u8, 1, 1, .int .u8 0⟩,
  ⟨6, .int .u8, 1, 1, .int .u8 0⟩,
  ⟨7, .struct [(0, 2), (1, 3), (2, 4), (3, 6)], 4, 24, .agg #[.int .i64 0, .int .i64 0, .bool false, .int .u8 0]⟩,
  ⟨8, .struct [(0, 2), (1, 3), (2, 4), (3, 6)], 4, 24, .agg #[.int .i64 0, .int .i64 0, .bool false, .int .u8 0]⟩,
  ⟨9, .string, 1, 16, .string ⟨#[]⟩⟩,
  ⟨10, .string, 1, 16, .string ⟨#[]⟩⟩,
  ⟨11, .string, 1, 16, .string ⟨#[]⟩⟩,
  ⟨12, .int .u64, 1, 8, .int .u64 0⟩,
  ⟨13, .struct [(0, 9), (1, 12)], 2, 24, .agg #[.string ⟨#[]⟩, .int .u64 0]⟩,
  ⟨14, .struct [(0, 9), (1, 12)], 2, 24, .agg #[.string ⟨#[]⟩, .int .u64 0]⟩,
  ⟨15, .ptr 123, 1, 8, .pointer none⟩,
  ⟨16, .ptr 126, 1, 8, .pointer none⟩,
  ⟨17, .ptr 133, 1, 8, .pointer none⟩,
  ⟨18, .struct [(0, 17)], 1, 8, .agg #[.pointer none]⟩,
  ⟨19, .struct [(0, 17)], 1, 8, .agg #[.pointer none]⟩,
  ⟨20, .iface, 1, 16, .nilIface⟩,
  ⟨21, .int .i32, 1, 4, .int .i32 0⟩,
  ⟨22, .slice 9, 1, 24, .slice none 0 0⟩,
  ⟨23, .slice 43, 1, 24, .slice none 0 0⟩,
  ⟨24, .slice 3, 1, 24, .slice none 0 0⟩,
  ⟨25, .struct [(0, 4), (1, 22), (2, 23), (3, 24)], 4, 80, .agg #[.bool false, .slice none 0 0, .slice none 0 0, .slice none 0 0]⟩,
  ⟨26, .struct [(0, 4), (1, 22), (2, 23), (3, 24)], 4, 80, .agg #[.bool false, .slice none 0 0, .slice none 0 0, .slice none 0 0]⟩,
  ⟨27, .fn, 1, 8, .nilFunc⟩,
  ⟨28, .fn, 1, 8, .nilFunc⟩,
  ⟨29, .int .i64, 1, 8, .int .i64 0⟩,
  ⟨31, .fn, 1, 8, .nilFunc⟩,
  ⟨33, .fn, 1, 8, .nilFunc⟩,
  ⟨34, .fn, 1, 8, .nilFunc⟩,
  ⟨35, .fn, 1, 8, .nilFunc⟩,
  ⟨37, .fn, 1, 8, .nilFunc⟩,
  ⟨38, .fn, 1, 8, .nilFunc⟩,
  ⟨39, .fn, 1, 8, .nilFunc⟩,
  ⟨40, .int .u64, 1, 8, .int .u64 0⟩,
  ⟨41, .fn, 1, 8, .nilFunc⟩,
  ⟨42, .struct [(0, 3), (1, 9), (2, 3)], 3, 32, .agg #[.int .i64 0, .string ⟨#[]⟩, .int .i64 0]⟩,
  ⟨43, .struct [(0, 3), (1, 9), (2, 3)], 3, 32, .agg #[.int .i64 0, .string ⟨#[]⟩, .int .i64 0]⟩,
  ⟨44, .fn, 1, 8, .nilFunc⟩,
  ⟨45, .fn, 1, 8, .nilFunc⟩,
  ⟨46, .fn, 1, 8, .nilFunc⟩,
  ⟨47, .fn, 1, 8, .nilFunc⟩,
  ⟨48, .fn, 1, 8, .nilFunc⟩,
  ⟨49, .fn, 1, 8, .nilFunc⟩,
  ⟨50, .fn, 1, 8, .nilFunc⟩,
  ⟨51, .fn, 1, 8, .nilFunc⟩,
  ⟨52, .fn, 1, 8, .nilFunc⟩,
  ⟨53, .ptr 55, 1, 8, .pointer none⟩,
  ⟨54, .struct [(0, 9), (1, 4)], 2, 24, .agg #[.string ⟨#[]⟩, .bool false]⟩,
  ⟨55, .struct [(0, 9), (1, 4)], 2, 24, .agg #[.string ⟨#[]⟩, .bool false]⟩,
  ⟨56, .fn, 1, 8, .nilFunc⟩,
  ⟨57, .int .u64, 1, 8, .int .u64 0⟩,
  ⟨59, .fn, 1, 8, .nilFunc⟩,
  ⟨60, .fn, 1, 8, .nilFunc⟩,
  ⟨61, .fn, 1, 8, .nilFunc⟩,
  ⟨63, .fn, 1, 8, .nilFunc⟩,
  ⟨65, .fn, 1, 8, .nilFunc⟩,
  ⟨66, .ptr 69, 1, 8, .pointer none⟩,
  ⟨67, .slice 5, 1, 24, .slice none 0 0⟩,
  ⟨68, .struct [(0, 66), (1, 67)], 2, 32, .agg #[.pointer none, .slice none 0 0]⟩,
  ⟨69, .struct [(0, 66), (1, 67)], 2, 32, .agg #[.pointer none, .slice none 0 0]⟩,
  ⟨70, .iface, 1, 16, .nilIface⟩,
  ⟨71, .iface, 1, 16, .nilIface⟩,
  ⟨72, .fn, 1, 8, .nilFunc⟩,
  ⟨74, .fn, 1, 8, .nilFunc⟩,
  ⟨75, .fn, 1, 8, .nilFunc⟩,
  ⟨76, .fn, 1, 8, .nilFunc⟩,
  ⟨77, .fn, 1, 8, .nilFunc⟩,
  ⟨79, .fn, 1, 8, .nilFunc⟩,
  ⟨80, .fn, 1, 8, .nilFunc⟩,
  ⟨81, .fn, 1, 8, .nilFunc⟩,
  ⟨82, .fn, 1, 8, .nilFunc⟩,
  ⟨83, .fn, 1, 8, .nilFunc⟩,
  ⟨84, .fn, 1, 8, .nilFunc⟩,
  ⟨85, .fn, 1, 8, .nilFunc⟩,
  ⟨86, .fn, 1, 8, .nilFunc⟩,
  ⟨87, .fn, 1, 8, .nilFunc⟩,
  ⟨88, .fn, 1, 8, .nilFunc⟩,
  ⟨90, .fn, 1, 8, .nilFunc⟩,
  ⟨91, .ptr 5, 1, 8, .pointer none⟩,
  ⟨92, .int .u32, 1, 4, .int .u32 0⟩,
  ⟨94, .fn, 1, 8, .nilFunc⟩,
  ⟨96, .fn, 1, 8, .nilFunc⟩,
  ⟨97, .fn, 1, 8, .nilFunc⟩,
  ⟨99, .fn, 1, 8, .nilFunc⟩,
  ⟨100, .fn, 1, 8, .nilFunc⟩,
  ⟨101, .fn, 1, 8, .nilFunc⟩,
  ⟨102, .fn, 1, 8, .nilFunc⟩,
  ⟨103, .fn, 1, 8, .nilFunc⟩,
  ⟨104, .fn, 1, 8, .nilFunc⟩,
  ⟨105, .int .i64, 1, 8, .int .i64 0⟩,
  ⟨107, .fn, 1, 8, .nilFunc⟩,
  ⟨108, .fn, 1, 8, .nilFunc⟩,
  ⟨109, .fn, 1, 8, .nilFunc⟩,
  ⟨110, .fn, 1, 8, .nilFunc⟩,
  ⟨111, .fn, 1, 8, .nilFunc⟩,
  ⟨112, .fn, 1, 8, .nilFunc⟩,
  ⟨113, .fn, 1, 8, .nilFunc⟩,
  ⟨114, .int .u64, 1, 8, .int .u64 0⟩,
  ⟨115, .fn, 1, 8, .nilFunc⟩,
  ⟨116, .fn, 1, 8, .nilFunc⟩,
  ⟨117, .fn, 1, 8, .nilFunc⟩,
  ⟨118, .ptr 3, 1, 8, .pointer none⟩,
  ⟨119, .fn, 1, 8, .nilFunc⟩,
  ⟨120, .ptr 114, 1, 8, .pointer none⟩,
  ⟨121, .fn, 1, 8, .nilFunc⟩,
  ⟨122, .struct [(0, 17), (1, 17), (2, 17), (3, 9)], 4, 40, .agg #[.pointer none, .pointer none, .pointer none, .string ⟨#[]⟩]⟩,
  ⟨123, .struct [(0, 17), (1, 17), (2, 17), (3, 9)], 4, 40, .agg #[.pointer none, .pointer none, .pointer none, .string ⟨#[]⟩]⟩,
  ⟨124, .array 0 16, 0, 0, .agg #[]⟩,
  ⟨125, .struct [(0, 124)], 0, 0, .agg #[]⟩,
  ⟨126, .struct [(0, 124)], 0, 0, .agg #[]⟩,
  ⟨127, .int .u8, 1, 1, .int .u8 0⟩,
  ⟨128, .int .u8, 1, 1, .int .u8 0⟩,
  ⟨129, .fn, 1, 8, .nilFunc⟩,
  ⟨130, .int .i32, 1, 4, .int .i32 0⟩,
  ⟨131, .int .i32, 1, 4, .int .i32 0⟩,
  ⟨132, .struct [(0, 12), (1, 12), (2, 92), (3, 127), (4, 5), (5, 5), (6, 128), (7, 129), (8, 91), (9, 130), (10, 131)], 11, 48, .agg #[.int .u64 0, .int .u64 0, .int .u32 0, .int .u8 0, .int .u8 0, .int .u8 0, .int .u8 0, .nilFunc, .pointer none, .int .i32 0, .int .i32 0]⟩,
  ⟨133, .struct [(0, 12), (1, 12), (2, 92), (3, 127), (4, 5), (5, 5), (6, 128), (7, 129), (8, 91), (9, 130), (10, 131)], 11, 48, .agg #[.int .u64 0, .int .u64 0, .int .u32 0, .int .u8 0, .int .u8 0, .int .u8 0, .int .u8 0, .nilFunc, .pointer none, .int .i32 0, .int .i32 0]⟩]
theorem tab1 : RowOk Try.prog ⟨1, .fn, 1, 8, .nilFunc⟩ := ⟨⟨_, _, _, Try.underlying1⟩, by kernel_rfl⟩
theorem tab2 : RowOk Try.prog ⟨2, .int .i64, 1, 8, .int .i64 0⟩ := ⟨Try.underlying2, by kernel_rfl⟩
theorem tab3 : RowOk Try.prog ⟨3, .int .i64, 1, 8, .int .i64 0⟩ := ⟨Try.underlying3, by kernel_rfl⟩
theorem tab4 : RowOk Try.prog ⟨4, .bool, 1, 1, .bool false⟩ := ⟨Try.underlying4, by kernel_rfl⟩
theorem tab5 : RowOk Try.prog ⟨5, .int .u8, 1, 1, .int .u8 0⟩ := ⟨Try.underlying5, by kernel_rfl⟩
theorem tab6 : RowOk Try.prog ⟨6, .int .u8, 1, 1, .int .u8 0⟩ := ⟨Try.underlying6, by kernel_rfl⟩
theorem tab7 : RowOk Try.prog ⟨7, .struct [(0, 2), (1, 3), (2, 4), (3, 6)], 4, 24, .agg #[.int .i64 0, .int .i64 0, .bool false, .int .u8 0]⟩ := ⟨⟨_, Try.underlying7, by kernel_rfl⟩, by kernel_rfl⟩
theorem tab8 : RowOk Try.prog ⟨8, .struct [(0, 2), (1, 3), (2, 4), (3, 6)], 4, 24, .agg #[.int .i64 0, .int .i64 0, .bool false, .int .u8 0]⟩ := ⟨⟨_, Try.underlying8, by kernel_rfl⟩, by kernel_rfl⟩
theorem tab9 : RowOk Try.prog ⟨9, .string, 1, 16, .string ⟨#[]⟩⟩ := ⟨Try.underlying9, by kernel_rfl⟩
theorem tab10 : RowOk Try.prog ⟨10, .string, 1, 16, .string ⟨#[]⟩⟩ := ⟨Try.underlying10, by kernel_rfl⟩
theorem tab11 : RowOk Try.prog ⟨11, .string, 1, 16, .string ⟨#[]⟩⟩ := ⟨Try.underlying11, by kernel_rfl⟩
theorem tab12 : RowOk Try.prog ⟨12, .int .u64, 1, 8, .int .u64 0⟩ := ⟨Try.underlying12, by kernel_rfl⟩
theorem tab13 : RowOk Try.prog ⟨13, .struct [(0, 9), (1, 12)], 2, 24, .agg #[.string ⟨#[]⟩, .int .u64 0]⟩ := ⟨⟨_, Try.underlying13, by kernel_rfl⟩, by kernel_rfl⟩
theorem tab14 : RowOk Try.prog ⟨14, .struct [(0, 9), (1, 12)], 2, 24, .agg #[.string ⟨#[]⟩, .int .u64 0]⟩ := ⟨⟨_, Try.underlying14, by kernel_rfl⟩, by kernel_rfl⟩
theorem tab15 : RowOk Try.prog ⟨15, .ptr 123, 1, 8, .pointer none⟩ := ⟨Try.underlying15, by kernel_rfl⟩
theorem tab16 : RowOk Try.prog ⟨16, .ptr 126, 1, 8, .pointer none⟩ := ⟨Try.underlying16, by kernel_rfl⟩
theorem tab17 : RowOk Try.prog ⟨17, .ptr 133, 1, 8, .pointer none⟩ := ⟨Try.underlying17, by kernel_rfl⟩
theorem tab18 : RowOk Try.prog ⟨18, .struct [(0, 17)], 1, 8, .agg #[.pointer none]⟩ := ⟨⟨_, Try.underlying18, by kernel_rfl⟩, by kernel_rfl⟩
theorem tab19 : RowOk Try.prog ⟨19, .struct [(0, 17)], 1, 8, .agg #[.pointer none]⟩ := ⟨⟨_, Try.underlying19, by kernel_rfl⟩, by kernel_rfl⟩
theorem tab20 : RowOk Try.prog ⟨20, .iface, 1, 16, .nilIface⟩ := ⟨⟨_, Try.underlying20⟩, by kernel_rfl⟩
theorem tab21 : RowOk Try.prog ⟨21, .int .i32, 1, 4, .int .i32 0⟩ := ⟨Try.underlying21, by kernel_rfl⟩
theorem tab22 : RowOk Try.prog ⟨22, .slice 9, 1, 24, .slice none 0 0⟩ := ⟨Try.underlying22, by kernel_rfl⟩
theorem tab23 : RowOk Try.prog ⟨23, .slice 43, 1, 24, .slice none 0 0⟩ := ⟨Try.underlying23, by kernel_rfl⟩
theorem tab24 : RowOk Try.prog ⟨24, .slice 3, 1, 24, .slice none 0 0⟩ := ⟨Try.underlying24, by kernel_rfl⟩
theorem tab25 : RowOk Try.prog ⟨25, .struct [(0, 4), (1, 22), (2, 23), (3, 24)], 4, 80, .agg #[.bool false, .slice none 0 0, .slice none 0 0, .slice none 0 0]⟩ := ⟨⟨_, Try.underlying25, by kernel_rfl⟩, by kernel_rfl⟩
theorem tab26 : RowOk Try.prog ⟨26, .struct [(0, 4), (1, 22), (2, 23), (3, 24)], 4, 80, .agg #[.bool false, .slice none 0 0, .slice none 0 0, .slice none 0 0]⟩ := ⟨⟨_, Try.underlying26, by kernel_rfl⟩, by kernel_rfl⟩
theorem tab27 : RowOk Try.prog ⟨27, .fn, 1, 8, .nilFunc⟩ := ⟨⟨_, _, _, Try.underlying27⟩, by kernel_rfl⟩
theorem tab28 : RowOk Try.prog ⟨28, .fn, 1, 8, .nilFunc⟩ := ⟨⟨_, _, _, Try.underlying28⟩, by kernel_rfl⟩
theorem tab29 : RowOk Try.prog ⟨29, .int .i64, 1, 8, .int .i64 0⟩ := ⟨Try.underlying29, by kernel_rfl⟩
theorem tab31 : RowOk Try.prog ⟨31, .fn, 1, 8, .nilFunc⟩ := ⟨⟨_, _, _, Try.underlying31⟩, by kernel_rfl⟩
theorem tab33 : RowOk Try.prog ⟨33, .fn, 1, 8, .nilFunc⟩ := ⟨⟨_, _, _, Try.underlying33⟩, by kernel_rfl⟩
theorem tab34 : RowOk Try.prog ⟨34, .fn, 1, 8, .nilFunc⟩ := ⟨⟨_, _, _, Try.underlying34⟩, by kernel_rfl⟩
theorem tab35 : RowOk Try.prog ⟨35, .fn, 1, 8, .nilFunc⟩ := ⟨⟨_, _, _, Try.underlying35⟩, by kernel_rfl⟩
theorem tab37 : RowOk Try.prog ⟨37, .fn, 1, 8, .nilFunc⟩ := ⟨⟨_, _, _, Try.underlying37⟩, by kernel_rfl⟩
theorem tab38 : RowOk Try.prog ⟨38, .fn, 1, 8, .nilFunc⟩ := ⟨⟨_, _, _, Try.underlying38⟩, by kernel_rfl⟩
theorem tab39 : RowOk Try.prog ⟨39, .fn, 1, 8, .nilFunc⟩ := ⟨⟨_, _, _, Try.underlying39⟩, by kernel_rfl⟩
theorem tab40 : RowOk Try.prog ⟨40, .int .u64, 1, 8, .int .u64 0⟩ := ⟨Try.underlying40, by kernel_rfl⟩
theorem tab41 : RowOk Try.prog ⟨41, .fn, 1, 8, .nilFunc⟩ := ⟨⟨_, _, _, Try.underlying41⟩, by kernel_rfl⟩
theorem tab42 : RowOk Try.prog ⟨42, .struct [(0, 3), (1, 9), (2, 3)], 3, 32, .agg #[.int .i64 0, .string ⟨#[]⟩, .int .i64 0]⟩ := ⟨⟨_, Try.underlying42, by kernel_rfl⟩, by kernel_rfl⟩
theorem tab43 : RowOk Try.prog ⟨43, .struct [(0, 3), (1, 9), (2, 3)], 3, 32, .agg #[.int .i64 0, .string ⟨#[]⟩, .int .i64 0]⟩ := ⟨⟨_, Try.underlying43, by kernel_rfl⟩, by kernel_rfl⟩
theorem tab44 : RowOk Try.prog ⟨44, .fn, 1, 8, .nilFunc⟩ := ⟨⟨_, _, _, Try.underlying44⟩, by kernel_rfl⟩
theorem tab45 : RowOk Try.prog ⟨45, .fn, 1, 8, .nilFunc⟩ := ⟨⟨_, _, _, Try.underlying45⟩, by kernel_rfl⟩
theorem tab46 : RowOk Try.prog ⟨46, .fn, 1, 8, .nilFunc⟩ := ⟨⟨_, _, _, Try.underlying46⟩, by kernel_rfl⟩
theorem tab47 : RowOk Try.prog ⟨47, .fn, 1, 8, .nilFunc⟩ := ⟨⟨_, _, _, Try.underlying47⟩, by kernel_rfl⟩
theorem tab48 : RowOk Try.prog ⟨48, .fn, 1, 8, .nilFunc⟩ := ⟨⟨_, _, _, Try.underlying48⟩, by kernel_rfl⟩
theorem tab49 : RowOk Try.prog ⟨49, .fn, 1, 8, .nilFunc⟩ := ⟨⟨_, _, _, Try.underlying49⟩, by kernel_rfl⟩
theorem tab50 : RowOk Try.prog ⟨50, .fn, 1, 8, .nilFunc⟩ := ⟨⟨_, _, _, Try.underlying50⟩, by kernel_rfl⟩
theorem tab51 : RowOk Try.prog ⟨51, .fn, 1, 8, .nilFunc⟩ := ⟨⟨_, _, _, Try.underlying51⟩, by kernel_rfl⟩
theorem tab52 : RowOk Try.prog ⟨52, .fn, 1, 8, .nilFunc⟩ := ⟨⟨_, _, _, Try.underlying52⟩, by kernel_rfl⟩
theorem tab53 : RowOk Try.prog ⟨53, .ptr 55, 1, 8, .pointer none⟩ := ⟨Try.underlying53, by kernel_rfl⟩
theorem tab54 : RowOk Try.prog ⟨54, .struct [(0, 9), (1, 4)], 2, 24, .agg #[.string ⟨#[]⟩, .bool false]⟩ := ⟨⟨_, Try.underlying54, by kernel_rfl⟩, by kernel_rfl⟩
theorem tab55 : RowOk Try.prog ⟨55, .struct [(0, 9), (1, 4)], 2, 24, .agg #[.string ⟨#[]⟩, .bool false]⟩ := ⟨⟨_, Try.underlying55, by kernel_rfl⟩, by kernel_rfl⟩
theorem tab56 : RowOk Try.prog ⟨56, .fn, 1, 8, .nilFunc⟩ := ⟨⟨_, _, _, Try.underlying56⟩, by kernel_rfl⟩
theorem tab57 : RowOk Try.prog ⟨57, .int .u64, 1, 8, .int .u64 0⟩ := ⟨Try.underlying57, by kernel_rfl⟩
theorem tab59 : RowOk Try.prog ⟨59, .fn, 1, 8, .nilFunc⟩ := ⟨⟨_, _, _, Try.underlying59⟩, by kernel_rfl⟩
theorem tab60 : RowOk Try.prog ⟨60, .fn, 1, 8, .nilFunc⟩ := ⟨⟨_, _, _, Try.underlying60⟩, by kernel_rfl⟩
theorem tab61 : RowOk Try.prog ⟨61, .fn, 1, 8, .nilFunc⟩ := ⟨⟨_, _, _, Try.underlying61⟩, by kernel_rfl⟩
theorem tab63 : RowOk Try.prog ⟨63, .fn, 1, 8, .nilFunc⟩ := ⟨⟨_, _, _, Try.underlying63⟩, by kernel_rfl⟩
theorem tab65 : RowOk Try.prog ⟨65, .fn, 1, 8, .nilFunc⟩ := ⟨⟨_, _, _, Try.underlying65⟩, by kernel_rfl⟩
theorem tab66 : RowOk Try.prog ⟨66, .ptr 69, 1, 8, .pointer none⟩ := ⟨Try.underlying66, by kernel_rfl⟩
theorem tab67 : RowOk Try.prog ⟨67, .slice 5, 1, 24, .slice none 0 0⟩ := ⟨Try.underlying67, by kernel_rfl⟩
theorem tab68 : RowOk Try.prog ⟨68, .struct [(0, 66), (1, 67)], 2, 32, .agg #[.pointer none, .slice none 0 0]⟩ := ⟨⟨_, Try.underlying68, by kernel_rfl⟩, by kernel_rfl⟩
theorem tab69 : RowOk Try.prog ⟨69, .struct [(0, 66), (1, 67)], 2, 32, .agg #[.pointer none, .slice none 0 0]⟩ := ⟨⟨_, Try.underlying69, by kernel_rfl⟩, by kernel_rfl⟩
theorem tab70 : RowOk Try.prog ⟨70, .iface, 1, 16, .nilIface⟩ := ⟨⟨_, Try.underlying70⟩, by kernel_rfl⟩
theorem tab71 : RowOk Try.prog ⟨71, .iface, 1, 16, .nilIface⟩ := ⟨⟨_, Try.underlying71⟩, by kernel_rfl⟩
theorem tab72 : RowOk Try.prog ⟨72, .fn, 1, 8, .nilFunc⟩ := ⟨⟨_, _, _, Try.underlying72⟩, by kernel_rfl⟩
theorem tab74 : RowOk Try.prog ⟨74, .fn, 1, 8, .nilFunc⟩ := ⟨⟨_, _, _, Try.underlying74⟩, by kernel_rfl⟩
theorem tab75 : RowOk Try.prog ⟨75, .fn, 1, 8, .nilFunc⟩ := ⟨⟨_, _, _, Try.underlying75⟩, by kernel_rfl⟩
theorem tab76 : RowOk Try.prog ⟨76, .fn, 1, 8, .nilFunc⟩ := ⟨⟨_, _, _, Try.underlying76⟩, by kernel_rfl⟩
theorem tab77 : RowOk Try.prog ⟨77, .fn, 1, 8, .nilFunc⟩ := ⟨⟨_, _, _, Try.underlying77⟩, by kernel_rfl⟩
theorem tab79 : RowOk Try.prog ⟨79, .fn, 1, 8, .nilFunc⟩ := ⟨⟨_, _, _, Try.underlying79⟩, by kernel_rfl⟩
theorem tab80 : RowOk Try.prog ⟨80, .fn, 1, 8, .nilFunc⟩ := ⟨⟨_, _, _, Try.underlying80⟩, by kernel_rfl⟩
theorem tab81 : RowOk Try.prog ⟨81, .fn, 1, 8, .nilFunc⟩ := ⟨⟨_, _, _, Try.underlying81⟩, by kernel_rfl⟩
theorem tab82 : RowOk Try.prog ⟨82, .fn, 1, 8, .nilFunc⟩ := ⟨⟨_, _, _, Try.underlying82⟩, by kernel_rfl⟩
theorem tab83 : RowOk Try.prog ⟨83, .fn, 1, 8, .nilFunc⟩ := ⟨⟨_, _, _, Try.underlying83⟩, by kernel_rfl⟩
theorem tab84 : RowOk Try.prog ⟨84, .fn, 1, 8, .nilFunc⟩ := ⟨⟨_, _, _, Try.underlying84⟩, by kernel_rfl⟩
theorem tab85 : RowOk Try.prog ⟨85, .fn, 1, 8, .nilFunc⟩ := ⟨⟨_, _, _, Try.underlying85⟩, by kernel_rfl⟩
theorem tab86 : RowOk Try.prog ⟨86, .fn, 1, 8, .nilFunc⟩ := ⟨⟨_, _, _, Try.underlying86⟩, by kernel_rfl⟩
theorem tab87 : RowOk Try.prog ⟨87, .fn, 1, 8, .nilFunc⟩ := ⟨⟨_, _, _, Try.underlying87⟩, by kernel_rfl⟩
theorem tab88 : RowOk Try.prog ⟨88, .fn, 1, 8, .nilFunc⟩ := ⟨⟨_, _, _, Try.underlying88⟩, by kernel_rfl⟩
theorem tab90 : RowOk Try.prog ⟨90, .fn, 1, 8, .nilFunc⟩ := ⟨⟨_, _, _, Try.underlying90⟩, by kernel_rfl⟩
theorem tab91 : RowOk Try.prog ⟨91, .ptr 5, 1, 8, .pointer none⟩ := ⟨Try.underlying91, by kernel_rfl⟩
theorem tab92 : RowOk Try.prog ⟨92, .int .u32, 1, 4, .int .u32 0⟩ := ⟨Try.underlying92, by kernel_rfl⟩
theorem tab94 : RowOk Try.prog ⟨94, .fn, 1, 8, .nilFunc⟩ := ⟨⟨_, _, _, Try.underlying94⟩, by kernel_rfl⟩
theorem tab96 : RowOk Try.prog ⟨96, .fn, 1, 8, .nilFunc⟩ := ⟨⟨_, _, _, Try.underlying96⟩, by kernel_rfl⟩
theorem tab97 : RowOk Try.prog ⟨97, .fn, 1, 8, .nilFunc⟩ := ⟨⟨_, _, _, Try.underlying97⟩, by kernel_rfl⟩
theorem tab99 : RowOk Try.prog ⟨99, .fn, 1, 8, .nilFunc⟩ := ⟨⟨_, _, _, Try.underlying99⟩, by kernel_rfl⟩
theorem tab100 : RowOk Try.prog ⟨100, .fn, 1, 8, .nilFunc⟩ := ⟨⟨_, _, _, Try.underlying100⟩, by kernel_rfl⟩
theorem tab101 : RowOk Try.prog ⟨101, .fn, 1, 8, .nilFunc⟩ := ⟨⟨_, _, _, Try.underlying101⟩, by kernel_rfl⟩
theorem tab102 : RowOk Try.prog ⟨102, .fn, 1, 8, .nilFunc⟩ := ⟨⟨_, _, _, Try.underlying102⟩, by kernel_rfl⟩
theorem tab103 : RowOk Try.prog ⟨103, .fn, 1, 8, .nilFunc⟩ := ⟨⟨_, _, _, Try.underlying103⟩, by kernel_rfl⟩
theorem tab104 : RowOk Try.prog ⟨104, .fn, 1, 8, .nilFunc⟩ := ⟨⟨_, _, _, Try.underlying104⟩, by kernel_rfl⟩
theorem tab105 : RowOk Try.prog ⟨105, .int .i64, 1, 8, .int .i64 0⟩ := ⟨Try.underlying105, by kernel_rfl⟩
theorem tab107 : RowOk Try.prog ⟨107, .fn, 1, 8, .nilFunc⟩ := ⟨⟨_, _, _, Try.underlying107⟩, by kernel_rfl⟩
theorem tab108 : RowOk Try.prog ⟨108, .fn, 1, 8, .nilFunc⟩ := ⟨⟨_, _, _, Try.underlying108⟩, by kernel_rfl⟩
theorem tab109 : RowOk Try.prog ⟨109, .fn, 1, 8, .nilFunc⟩ := ⟨⟨_, _, _, Try.underlying109⟩, by kernel_rfl⟩
theorem tab110 : RowOk Try.prog ⟨110, .fn, 1, 8, .nilFunc⟩ := ⟨⟨_, _, _, Try.underlying110⟩, by kernel_rfl⟩
theorem tab111 : RowOk Try.prog ⟨111, .fn, 1, 8, .nilFunc⟩ := ⟨⟨_, _, _, Try.underlying111⟩, by kernel_rfl⟩
theorem tab112 : RowOk Try.prog ⟨112, .fn, 1, 8, .nilFunc⟩ := ⟨⟨_, _, _, Try.underlying112⟩, by kernel_rfl⟩
theorem tab113 : RowOk Try.prog ⟨113, .fn, 1, 8, .nilFunc⟩ := ⟨⟨_, _, _, Try.underlying113⟩, by kernel_rfl⟩
theorem tab114 : RowOk Try.prog ⟨114, .int .u64, 1, 8, .int .u64 0⟩ := ⟨Try.underlying114, by kernel_rfl⟩
theorem tab115 : RowOk Try.prog ⟨115, .fn, 1, 8, .nilFunc⟩ := ⟨⟨_, _, _, Try.underlying115⟩, by kernel_rfl⟩
theorem tab116 : RowOk Try.prog ⟨116, .fn, 1, 8, .nilFunc⟩ := ⟨⟨_, _, _, Try.underlying116⟩, by kernel_rfl⟩
theorem tab117 : RowOk Try.prog ⟨117, .fn, 1, 8, .nilFunc⟩ := ⟨⟨_, _, _, Try.underlying117⟩, by kernel_rfl⟩
theorem tab118 : RowOk Try.prog ⟨118, .ptr 3, 1, 8, .pointer none⟩ := ⟨Try.underlying118, by kernel_rfl⟩
theorem tab119 : RowOk Try.prog ⟨119, .fn, 1, 8, .nilFunc⟩ := ⟨⟨_, _, _, Try.underlying119⟩, by kernel_rfl⟩
theorem tab120 : RowOk Try.prog ⟨120, .ptr 114, 1, 8, .pointer none⟩ := ⟨Try.underlying120, by kernel_rfl⟩
theorem tab121 : RowOk Try.prog ⟨121, .fn, 1, 8, .nilFunc⟩ := ⟨⟨_, _, _, Try.underlying121⟩, by kernel_rfl⟩
theorem tab122 : RowOk Try.prog ⟨122, .struct [(0, 17), (1, 17), (2, 17), (3, 9)], 4, 40, .agg #[.pointer none, .pointer none, .pointer none, .string ⟨#[]⟩]⟩ := ⟨⟨_, Try.underlying122, by kernel_rfl⟩, by kernel_rfl⟩
theorem tab123 : RowOk Try.prog ⟨123, .struct [(0, 17), (1, 17), (2, 17), (3, 9)], 4, 40, .agg #[.pointer none, .pointer none, .pointer none, .string ⟨#[]⟩]⟩ := ⟨⟨_, Try.underlying123, by kernel_rfl⟩, by kernel_rfl⟩
theorem tab124 : RowOk Try.prog ⟨124, .array 0 16, 0, 0, .agg #[]⟩ := ⟨Try.underlying124, by kernel_rfl⟩
theorem tab125 : RowOk Try.prog ⟨125, .struct [(0, 124)], 0, 0, .agg #[]⟩ := ⟨⟨_, Try.underlying125, by kernel_rfl⟩, by kernel_rfl⟩
theorem tab126 : RowOk Try.prog ⟨126, .struct [(0, 124)], 0, 0, .agg #[]⟩ := ⟨⟨_, Try.underlying126, by kernel_rfl⟩, by kernel_rfl⟩
theorem tab127 : RowOk Try.prog ⟨127, .int .u8, 1, 1, .int .u8 0⟩ := ⟨Try.underlying127, by kernel_rfl⟩
theorem tab128 : RowOk Try.prog ⟨128, .int .u8, 1, 1, .int .u8 0⟩ := ⟨Try.underlying128, by kernel_rfl⟩
theorem tab129 : RowOk Try.prog ⟨129, .fn, 1, 8, .nilFunc⟩ := ⟨⟨_, _, _, Try.underlying129⟩, by kernel_rfl⟩
theorem tab130 : RowOk Try.prog ⟨130, .int .i32, 1, 4, .int .i32 0⟩ := ⟨Try.underlying130, by kernel_rfl⟩
theorem tab131 : RowOk Try.prog ⟨131, .int .i32, 1, 4, .int .i32 0⟩ := ⟨Try.underlying131, by kernel_rfl⟩
theorem tab132 : RowOk Try.prog ⟨132, .struct [(0, 12), (1, 12), (2, 92), (3, 127), (4, 5), (5, 5), (6, 128), (7, 129), (8, 91), (9, 130), (10, 131)], 11, 48, .agg #[.int .u64 0, .int .u64 0, .int .u32 0, .int .u8 0, .int .u8 0, .int .u8 0, .int .u8 0, .nilFunc, .pointer none, .int .i32 0, .int .i32 0]⟩ := ⟨⟨_, Try.underlying132, by kernel_rfl⟩, by kernel_rfl⟩
theorem tab133 : RowOk Try.prog ⟨133, .struct [(0, 12), (1, 12), (2, 92), (3, 127), (4, 5), (5, 5), (6, 128), (7, 129), (8, 91), (9, 130), (10, 131)], 11, 48, .agg #[.int .u64 0, .int .u64 0, .int .u32 0, .int .u8 0, .int .u8 0, .int .u8 0, .int .u8 0, .nilFunc, .pointer none, .int .i32 0, .int .i32 0]⟩ := ⟨⟨_, Try.underlying133, by kernel_rfl⟩, by kernel_rfl⟩
theorem tabOk : TabOk Try.prog tab :=
  .cons tab1 <|
  .cons tab2 <|
  .cons tab3 <|
  .cons tab4 <|
  .cons tab5 <|
  .cons tab6 <|
  .cons tab7 <|
  .cons tab8 <|
  .cons tab9 <|
  .cons tab10 <|
  .cons tab11 <|
  .cons tab12 <|
  .cons tab13 <|
  .cons tab14 <|
  .cons tab15 <|
  .cons tab16 <|
  .cons tab17 <|
  .cons tab18 <|
  .cons tab19 <|
  .cons tab20 <|
  .cons tab21 <|
  .cons tab22 <|
  .cons tab23 <|
  .cons tab24 <|
  .cons tab25 <|
  .cons tab26 <|
  .cons tab27 <|
  .cons tab28 <|
  .cons tab29 <|
  .cons tab31 <|
  .cons tab33 <|
  .cons tab34 <|
  .cons tab35 <|
  .cons tab37 <|
  .cons tab38 <|
  .cons tab39 <|
  .cons tab40 <|
  .cons tab41 <|
  .cons tab42 <|
  .cons tab43 <|
  .cons tab44 <|
  .cons tab45 <|
  .cons tab46 <|
  .cons tab47 <|
  .cons tab48 <|
  .cons tab49 <|
  .cons tab50 <|
  .cons tab51 <|
  .cons tab52 <|
  .cons tab53 <|
  .cons tab54 <|
  .cons tab55 <|
  .cons tab56 <|
  .cons tab57 <|
  .cons tab59 <|
  .cons tab60 <|
  .cons tab61 <|
  .cons tab63 <|
  .cons tab65 <|
  .cons tab66 <|
  .cons tab67 <|
  .cons tab68 <|
  .cons tab69 <|
  .cons tab70 <|
  .cons tab71 <|
  .cons tab72 <|
  .cons tab74 <|
  .cons tab75 <|
  .cons tab76 <|
  .cons tab77 <|
  .cons tab79 <|
  .cons tab80 <|
  .cons tab81 <|
  .cons tab82 <|
  .cons tab83 <|
  .cons tab84 <|
  .cons tab85 <|
  .cons tab86 <|
  .cons tab87 <|
  .cons tab88 <|
  .cons tab90 <|
  .cons tab91 <|
  .cons tab92 <|
  .cons tab94 <|
  .cons tab96 <|
  .cons tab97 <|
  .cons tab99 <|
  .cons tab100 <|
  .cons tab101 <|
  .cons tab102 <|
  .cons tab103 <|
  .cons tab104 <|
  .cons tab105 <|
  .cons tab107 <|
  .cons tab108 <|
  .cons tab109 <|
  .cons tab110 <|
  .cons tab111 <|
  .cons tab112 <|
  .cons tab113 <|
  .cons tab114 <|
  .cons tab115 <|
  .cons tab116 <|
  .cons tab117 <|
  .cons tab118 <|
  .cons tab119 <|
  .cons tab120 <|
  .cons tab121 <|
  .cons tab122 <|
  .cons tab123 <|
  .cons tab124 <|
  .cons tab125 <|
  .cons tab126 <|
  .cons tab127 <|
  .cons tab128 <|
  .cons tab129 <|
  .cons tab130 <|
  .cons tab131 <|
  .cons tab132 <|
  .cons tab133 <| .nil
theorem mixed : Try.prog.follows .mixedOrders = true := by kernel_rfl
end Go.Proofs.Ytfjpinifmengcaa
