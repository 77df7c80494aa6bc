/- The table of types of this seat, and that it is right. -/
import Derived.Test.YtcfnokifghpnpaaRows
import Derived.Test.YtcfnokifghpnpaaEngL
namespace Go.Proofs.Ytcfnokifghpnpaa
open Go.RowKit
def tab : Tab := [
  ⟨1, .fn, 1, 8, .nilFunc⟩,
  ⟨2, .int .i64, 1, 8, .int .i64 0⟩,
  ⟨3, .int .i64, 1, 8, .int .i64 0⟩,
  ⟨4, .bool, 1, 1, .bool false⟩,
  ⟨5, .int .u8, 1, 1, .int .u8 0⟩,
  ⟨6, .int .u8, 1, 1, .int .u8 0⟩,
  ⟨7, .struct [(0, 2), (1, 3), (2, 4), (3, 6)], 4, 24, .agg #[.int .i64 0, .int .i64 0, .bool false, .int .u8 0]⟩,
  ⟨8, .struct [(0, 2), (1, 3), (2, 4), (3, 6)], 4, 24, .agg #[.int .i64 0, .int .i64 0, .bool false, .int .u8 0]⟩,
  ⟨9, .string, 1, 16, .string ⟨#[]⟩⟩,
  ⟨10, .string, 1, 16, .string ⟨#[]⟩⟩,
  ⟨11, .string, 1, 16, .string ⟨#[]⟩⟩,
  ⟨12, .int .u64, 1, 8, .int .u64 0⟩,
  ⟨13, .struct [(0, 9), (1, 12)], 2, 24, .agg #[.string ⟨#[]⟩, .int .u64 0]⟩,
  ⟨14, .struct [(0, 9), (1, 12)], 2, 24, .agg #[.string ⟨#[]⟩, .int .u64 0]⟩,
  ⟨15, .ptr 116, 1, 8, .pointer none⟩,
  ⟨16, .ptr 119, 1, 8, .pointer none⟩,
  ⟨17, .ptr 126, 1, 8, .pointer none⟩,
  ⟨18, .struct [(0, 17)], 1, 8, .agg #[.pointer none]⟩,
  ⟨19, .struct [(0, 17)], 1, 8, .agg #[.pointer none]⟩,
  ⟨20, .iface, 1, 16, .nilIface⟩,
  ⟨21, .int .i32, 1, 4, .int .i32 0⟩,
  ⟨22, .slice 3, 1, 24, .slice none 0 0⟩,
  ⟨23, .struct [(0, 3), (1, 22)], 2, 32, .agg #[.int .i64 0, .slice none 0 0]⟩,
  ⟨24, .struct [(0, 3), (1, 22)], 2, 32, .agg #[.int .i64 0, .slice none 0 0]⟩,
  ⟨25, .fn, 1, 8, .nilFunc⟩,
  ⟨26, .int .i64, 1, 8, .int .i64 0⟩,
  ⟨28, .fn, 1, 8, .nilFunc⟩,
  ⟨30, .fn, 1, 8, .nilFunc⟩,
  ⟨31, .fn, 1, 8, .nilFunc⟩,
  ⟨32, .fn, 1, 8, .nilFunc⟩,
  ⟨33, .int .u64, 1, 8, .int .u64 0⟩,
  ⟨34, .struct [(0, 3), (1, 3), (2, 3), (3, 3), (4, 3), (5, 33)], 6, 48, .agg #[.int .i64 0, .int .i64 0, .int .i64 0, .int .i64 0, .int .i64 0, .int .u64 0]⟩,
  ⟨35, .struct [(0, 3), (1, 3), (2, 3), (3, 3), (4, 3), (5, 33)], 6, 48, .agg #[.int .i64 0, .int .i64 0, .int .i64 0, .int .i64 0, .int .i64 0, .int .u64 0]⟩,
  ⟨36, .slice 45, 1, 24, .slice none 0 0⟩,
  ⟨37, .fn, 1, 8, .nilFunc⟩,
  ⟨38, .ptr 47, 1, 8, .pointer none⟩,
  ⟨39, .fn, 1, 8, .nilFunc⟩,
  ⟨40, .ptr 43, 1, 8, .pointer none⟩,
  ⟨41, .slice 9, 1, 24, .slice none 0 0⟩,
  ⟨42, .struct [(0, 22), (1, 41)], 2, 48, .agg #[.slice none 0 0, .slice none 0 0]⟩,
  ⟨43, .struct [(0, 22), (1, 41)], 2, 48, .agg #[.slice none 0 0, .slice none 0 0]⟩,
  ⟨44, .struct [(0, 3), (1, 9)], 2, 24, .agg #[.int .i64 0, .string ⟨#[]⟩]⟩,
  ⟨45, .struct [(0, 3), (1, 9)], 2, 24, .agg #[.int .i64 0, .string ⟨#[]⟩]⟩,
  ⟨46, .struct [(0, 40), (1, 3)], 2, 16, .agg #[.pointer none, .int .i64 0]⟩,
  ⟨47, .struct [(0, 40), (1, 3)], 2, 16, .agg #[.pointer none, .int .i64 0]⟩,
  ⟨48, .fn, 1, 8, .nilFunc⟩,
  ⟨50, .fn, 1, 8, .nilFunc⟩,
  ⟨51, .fn, 1, 8, .nilFunc⟩,
  ⟨53, .fn, 1, 8, .nilFunc⟩,
  ⟨54, .fn, 1, 8, .nilFunc⟩,
  ⟨55, .fn, 1, 8, .nilFunc⟩,
  ⟨56, .fn, 1, 8, .nilFunc⟩,
  ⟨57, .int .u64, 1, 8, .int .u64 0⟩,
  ⟨58, .fn, 1, 8, .nilFunc⟩,
  ⟨59, .slice 4, 1, 24, .slice none 0 0⟩,
  ⟨60, .fn, 1, 8, .nilFunc⟩,
  ⟨61, .fn, 1, 8, .nilFunc⟩,
  ⟨62, .ptr 92, 1, 8, .pointer none⟩,
  ⟨63, .fn, 1, 8, .nilFunc⟩,
  ⟨65, .fn, 1, 8, .nilFunc⟩,
  ⟨66, .fn, 1, 8, .nilFunc⟩,
  ⟨67, .fn, 1, 8, .nilFunc⟩,
  ⟨68, .slice 5, 1, 24, .slice none 0 0⟩,
  ⟨69, .fn, 1, 8, .nilFunc⟩,
  ⟨70, .fn, 1, 8, .nilFunc⟩,
  ⟨71, .fn, 1, 8, .nilFunc⟩,
  ⟨72, .slice 74, 1, 24, .slice none 0 0⟩,
  ⟨73, .struct [(0, 3), (1, 3), (2, 9), (3, 4)], 4, 40, .agg #[.int .i64 0, .int .i64 0, .string ⟨#[]⟩, .bool false]⟩,
  ⟨74, .struct [(0, 3), (1, 3), (2, 9), (3, 4)], 4, 40, .agg #[.int .i64 0, .int .i64 0, .string ⟨#[]⟩, .bool false]⟩,
  ⟨75, .fn, 1, 8, .nilFunc⟩,
  ⟨76, .fn, 1, 8, .nilFunc⟩,
  ⟨77, .fn, 1, 8, .nilFunc⟩,
  ⟨78, .fn, 1, 8, .nilFunc⟩,
  ⟨79, .fn, 1, 8, .nilFunc⟩,
  ⟨80, .fn, 1, 8, .nilFunc⟩,
  ⟨81, .fn, 1, 8, .nilFunc⟩,
  ⟨83, .fn, 1, 8, .nilFunc⟩,
  ⟨84, .fn, 1, 8, .nilFunc⟩,
  ⟨85, .iface, 1, 16, .nilIface⟩,
  ⟨86, .iface, 1, 16, .nilIface⟩,
  ⟨87, .fn, 1, 8, .nilFunc⟩,
  ⟨88, .fn, 1, 8, .nilFunc⟩,
  ⟨89, .map 3 9, 1, 8, .map none⟩,
  ⟨90, .map 3 9, 1, 8, .map none⟩,
  ⟨91, .struct [(0, 3), (1, 35), (7, 90), (8, 3)], 9, 72, .agg #[.int .i64 0, .int .i64 0, .int .i64 0, .int .i64 0, .int .i64 0, .int .i64 0, .int .u64 0, .map none, .int .i64 0]⟩,
  ⟨92, .struct [(0, 3), (1, 35), (7, 90), (8, 3)], 9, 72, .agg #[.int .i64 0, .int .i64 0, .int .i64 0, .int .i64 0, .int .i64 0, .int .i64 0, .int .u64 0, .map none, .int .i64 0]⟩,
  ⟨93, .fn, 1, 8, .nilFunc⟩,
  ⟨95, .fn, 1, 8, .nilFunc⟩,
  ⟨96, .fn, 1, 8, .nilFunc⟩,
  ⟨97, .ptr 99, 1, 8, .pointer none⟩,
  ⟨98, .struct [(0, 97), (1, 68)], 2, 32, .agg #[.pointer none, .slice none 0 0]⟩,
  ⟨99, .struct [(0, 97), (1, 68)], 2, 32, .agg #[.pointer none, .slice none 0 0]⟩,
  ⟨100, .iface, 1, 16, .nilIface⟩,
  ⟨101, .iface, 1, 16, .nilIface⟩,
  ⟨103, .fn, 1, 8, .nilFunc⟩,
  ⟨104, .fn, 1, 8, .nilFunc⟩,
  ⟨106, .int .u32, 1, 4, .int .u32 0⟩,
  ⟨108, .fn, 1, 8, .nilFunc⟩,
  ⟨110, .fn, 1, 8, .nilFunc⟩,
  ⟨111, .ptr 5, 1, 8, .pointer none⟩,
  ⟨113, .fn, 1, 8, .nilFunc⟩,
  ⟨114, .fn, 1, 8, .nilFunc⟩,
  ⟨115, .struct [(0, 17), (1, 17), (2, 17), (3, 9)], 4, 40, .agg #[.pointer none, .pointer none, .pointer none, .string ⟨#[]⟩]⟩,
  ⟨116, .struct [(0, 17), (1, 17), (2, 17), (3, 9)], 4, 40, .agg #[.pointer none, .pointer none, .pointer none, .string ⟨#[]⟩]⟩,
  ⟨117, .array 0 16, 0, 0, .agg #[]⟩,
  ⟨118, .struct [(0, 117)], 0, 0, .agg #[]⟩,
  ⟨119, .struct [(0, 117)], 0, 0, .agg #[]⟩,
  ⟨120, .int .u8, 1, 1, .int .u8 0⟩,
  ⟨121, .int .u8, 1, 1, .int .u8 0⟩,
  ⟨122, .fn, 1, 8, .nilFunc⟩,
  ⟨123, .int .i32, 1, 4, .int .i32 0⟩,
  ⟨124, .int .i32, 1, 4, .int .i32 0⟩,
  ⟨125, .struct [(0, 12), (1, 12), (2, 106), (3, 120), (4, 5), (5, 5), (6, 121), (7, 122), (8, 111), (9, 123), (10, 124)], 11, 48, .agg #[.int .u64 0, .int .u64 0, .int .u32 0, .int .u8 0, .int .u8 0, .int .u8 0, .int .u8 0, .nilFunc, .pointer none, .int .i32 0, .int .i32 0]⟩,
  ⟨126, .struct [(0, 12), (1, 12), (2, 106), (3, 120), (4, 5), (5, 5), (6, 121), (7, 122), (8, 111), (9, 123), (10, 124)], 11, 48, .agg #[.int .u64 0, .int .u64 0, .int .u32 0, .int .u8 0, .int .u8 0, .int .u8 0, .int .u8 0, .nilFunc, .pointer none, .int .i32 0, .int .i32 0]⟩]
theorem tab1 : RowOk Try.prog ⟨1, .fn, 1, 8, .nilFunc⟩ := ⟨⟨_, _, _, Try.underlying1⟩, by kernel_rfl⟩
theorem tab2 : RowOk Try.prog ⟨2, .int .i64, 1, 8, .int .i64 0⟩ := ⟨Try.underlying2, by kernel_rfl⟩
theorem tab3 : RowOk Try.prog ⟨3, .int .i64, 1, 8, .int .i64 0⟩ := ⟨Try.underlying3, by kernel_rfl⟩
theorem tab4 : RowOk Try.prog ⟨4, .bool, 1, 1, .bool false⟩ := ⟨Try.underlying4, by kernel_rfl⟩
theorem tab5 : RowOk Try.prog ⟨5, .int .u8, 1, 1, .int .u8 0⟩ := ⟨Try.underlying5, by kernel_rfl⟩
theorem tab6 : RowOk Try.prog ⟨6, .int .u8, 1, 1, .int .u8 0⟩ := ⟨Try.underlying6, by kernel_rfl⟩
theorem tab7 : RowOk Try.prog ⟨7, .struct [(0, 2), (1, 3), (2, 4), (3, 6)], 4, 24, .agg #[.int .i64 0, .int .i64 0, .bool false, .int .u8 0]⟩ := ⟨⟨_, Try.underlying7, by kernel_rfl⟩, by kernel_rfl⟩
theorem tab8 : RowOk Try.prog ⟨8, .struct [(0, 2), (1, 3), (2, 4), (3, 6)], 4, 24, .agg #[.int .i64 0, .int .i64 0, .bool false, .int .u8 0]⟩ := ⟨⟨_, Try.underlying8, by kernel_rfl⟩, by kernel_rfl⟩
theorem tab9 : RowOk Try.prog ⟨9, .string, 1, 16, .string ⟨#[]⟩⟩ := ⟨Try.underlying9, by kernel_rfl⟩
theorem tab10 : RowOk Try.prog ⟨10, .string, 1, 16, .string ⟨#[]⟩⟩ := ⟨Try.underlying10, by kernel_rfl⟩
theorem tab11 : RowOk Try.prog ⟨11, .string, 1, 16, .string ⟨#[]⟩⟩ := ⟨Try.underlying11, by kernel_rfl⟩
theorem tab12 : RowOk Try.prog ⟨12, .int .u64, 1, 8, .int .u64 0⟩ := ⟨Try.underlying12, by kernel_rfl⟩
theorem tab13 : RowOk Try.prog ⟨13, .struct [(0, 9), (1, 12)], 2, 24, .agg #[.string ⟨#[]⟩, .int .u64 0]⟩ := ⟨⟨_, Try.underlying13, by kernel_rfl⟩, by kernel_rfl⟩
theorem tab14 : RowOk Try.prog ⟨14, .struct [(0, 9), (1, 12)], 2, 24, .agg #[.string ⟨#[]⟩, .int .u64 0]⟩ := ⟨⟨_, Try.underlying14, by kernel_rfl⟩, by kernel_rfl⟩
theorem tab15 : RowOk Try.prog ⟨15, .ptr 116, 1, 8, .pointer none⟩ := ⟨Try.underlying15, by kernel_rfl⟩
theorem tab16 : RowOk Try.prog ⟨16, .ptr 119, 1, 8, .pointer none⟩ := ⟨Try.underlying16, by kernel_rfl⟩
theorem tab17 : RowOk Try.prog ⟨17, .ptr 126, 1, 8, .pointer none⟩ := ⟨Try.underlying17, by kernel_rfl⟩
theorem tab18 : RowOk Try.prog ⟨18, .struct [(0, 17)], 1, 8, .agg #[.pointer none]⟩ := ⟨⟨_, Try.underlying18, by kernel_rfl⟩, by kernel_rfl⟩
theorem tab19 : RowOk Try.prog ⟨19, .struct [(0, 17)], 1, 8, .agg #[.pointer none]⟩ := ⟨⟨_, Try.underlying19, by kernel_rfl⟩, by kernel_rfl⟩
theorem tab20 : RowOk Try.prog ⟨20, .iface, 1, 16, .nilIface⟩ := ⟨⟨_, Try.underlying20⟩, by kernel_rfl⟩
theorem tab21 : RowOk Try.prog ⟨21, .int .i32, 1, 4, .int .i32 0⟩ := ⟨Try.underlying21, by kernel_rfl⟩
theorem tab22 : RowOk Try.prog ⟨22, .slice 3, 1, 24, .slice none 0 0⟩ := ⟨Try.underlying22, by kernel_rfl⟩
theorem tab23 : RowOk Try.prog ⟨23, .struct [(0, 3), (1, 22)], 2, 32, .agg #[.int .i64 0, .slice none 0 0]⟩ := ⟨⟨_, Try.underlying23, by kernel_rfl⟩, by kernel_rfl⟩
theorem tab24 : RowOk Try.prog ⟨24, .struct [(0, 3), (1, 22)], 2, 32, .agg #[.int .i64 0, .slice none 0 0]⟩ := ⟨⟨_, Try.underlying24, by kernel_rfl⟩, by kernel_rfl⟩
theorem tab25 : RowOk Try.prog ⟨25, .fn, 1, 8, .nilFunc⟩ := ⟨⟨_, _, _, Try.underlying25⟩, by kernel_rfl⟩
theorem tab26 : RowOk Try.prog ⟨26, .int .i64, 1, 8, .int .i64 0⟩ := ⟨Try.underlying26, by kernel_rfl⟩
theorem tab28 : RowOk Try.prog ⟨28, .fn, 1, 8, .nilFunc⟩ := ⟨⟨_, _, _, Try.underlying28⟩, by kernel_rfl⟩
theorem tab30 : RowOk Try.prog ⟨30, .fn, 1, 8, .nilFunc⟩ := ⟨⟨_, _, _, Try.underlying30⟩, by kernel_rfl⟩
theorem tab31 : RowOk Try.prog ⟨31, .fn, 1, 8, .nilFunc⟩ := ⟨⟨_, _, _, Try.underlying31⟩, by kernel_rfl⟩
theorem tab32 : RowOk Try.prog ⟨32, .fn, 1, 8, .nilFunc⟩ := ⟨⟨_, _, _, Try.underlying32⟩, by kernel_rfl⟩
theorem tab33 : RowOk Try.prog ⟨33, .int .u64, 1, 8, .int .u64 0⟩ := ⟨Try.underlying33, by kernel_rfl⟩
theorem tab34 : RowOk Try.prog ⟨34, .struct [(0, 3), (1, 3), (2, 3), (3, 3), (4, 3), (5, 33)], 6, 48, .agg #[.int .i64 0, .int .i64 0, .int .i64 0, .int .i64 0, .int .i64 0, .int .u64 0]⟩ := ⟨⟨_, Try.underlying34, by kernel_rfl⟩, by kernel_rfl⟩
theorem tab35 : RowOk Try.prog ⟨35, .struct [(0, 3), (1, 3), (2, 3), (3, 3), (4, 3), (5, 33)], 6, 48, .agg #[.int .i64 0, .int .i64 0, .int .i64 0, .int .i64 0, .int .i64 0, .int .u64 0]⟩ := ⟨⟨_, Try.underlying35, by kernel_rfl⟩, by kernel_rfl⟩
theorem tab36 : RowOk Try.prog ⟨36, .slice 45, 1, 24, .slice none 0 0⟩ := ⟨Try.underlying36, by kernel_rfl⟩
theorem tab37 : RowOk Try.prog ⟨37, .fn, 1, 8, .nilFunc⟩ := ⟨⟨_, _, _, Try.underlying37⟩, by kernel_rfl⟩
theorem tab38 : RowOk Try.prog ⟨38, .ptr 47, 1, 8, .pointer none⟩ := ⟨Try.underlying38, by kernel_rfl⟩
theorem tab39 : RowOk Try.prog ⟨39, .fn, 1, 8, .nilFunc⟩ := ⟨⟨_, _, _, Try.underlying39⟩, by kernel_rfl⟩
theorem tab40 : RowOk Try.prog ⟨40, .ptr 43, 1, 8, .pointer none⟩ := ⟨Try.underlying40, by kernel_rfl⟩
theorem tab41 : RowOk Try.prog ⟨41, .slice 9, 1, 24, .slice none 0 0⟩ := ⟨Try.underlying41, by kernel_rfl⟩
theorem tab42 : RowOk Try.prog ⟨42, .struct [(0, 22), (1, 41)], 2, 48, .agg #[.slice none 0 0, .slice none 0 0]⟩ := ⟨⟨_, Try.underlying42, by kernel_rfl⟩, by kernel_rfl⟩
theorem tab43 : RowOk Try.prog ⟨43, .struct [(0, 22), (1, 41)], 2, 48, .agg #[.slice none 0 0, .slice none 0 0]⟩ := ⟨⟨_, Try.underlying43, by kernel_rfl⟩, by kernel_rfl⟩
theorem tab44 : RowOk Try.prog ⟨44, .struct [(0, 3), (1, 9)], 2, 24, .agg #[.int .i64 0, .string ⟨#[]⟩]⟩ := ⟨⟨_, Try.underlying44, by kernel_rfl⟩, by kernel_rfl⟩
theorem tab45 : RowOk Try.prog ⟨45, .struct [(0, 3), (1, 9)], 2, 24, .agg #[.int .i64 0, .string ⟨#[]⟩]⟩ := ⟨⟨_, Try.underlying45, by kernel_rfl⟩, by kernel_rfl⟩
theorem tab46 : RowOk Try.prog ⟨46, .struct [(0, 40), (1, 3)], 2, 16, .agg #[.pointer none, .int .i64 0]⟩ := ⟨⟨_, Try.underlying46, by kernel_rfl⟩, by kernel_rfl⟩
theorem tab47 : RowOk Try.prog ⟨47, .struct [(0, 40), (1, 3)], 2, 16, .agg #[.pointer none, .int .i64 0]⟩ := ⟨⟨_, Try.underlying47, by kernel_rfl⟩, by kernel_rfl⟩
theorem tab48 : RowOk Try.prog ⟨48, .fn, 1, 8, .nilFunc⟩ := ⟨⟨_, _, _, Try.underlying48⟩, by kernel_rfl⟩
theorem tab50 : RowOk Try.prog ⟨50, .fn, 1, 8, .nilFunc⟩ := ⟨⟨_, _, _, Try.underlying50⟩, by kernel_rfl⟩
theorem tab51 : RowOk Try.prog ⟨51, .fn, 1, 8, .nilFunc⟩ := ⟨⟨_, _, _, Try.underlying51⟩, by kernel_rfl⟩
theorem tab53 : RowOk Try.prog ⟨53, .fn, 1, 8, .nilFunc⟩ := ⟨⟨_, _, _, Try.underlying53⟩, by kernel_rfl⟩
theorem tab54 : RowOk Try.prog ⟨54, .fn, 1, 8, .nilFunc⟩ := ⟨⟨_, _, _, Try.underlying54⟩, by kernel_rfl⟩
theorem tab55 : RowOk Try.prog ⟨55, .fn, 1, 8, .nilFunc⟩ := ⟨⟨_, _, _, Try.underlying55⟩, by kernel_rfl⟩
theorem tab56 : RowOk Try.prog ⟨56, .fn, 1, 8, .nilFunc⟩ := ⟨⟨_, _, _, Try.underlying56⟩, by kernel_rfl⟩
theorem tab57 : RowOk Try.prog ⟨57, .int .u64, 1, 8, .int .u64 0⟩ := ⟨Try.underlying57, by kernel_rfl⟩
theorem tab58 : RowOk Try.prog ⟨58, .fn, 1, 8, .nilFunc⟩ := ⟨⟨_, _, _, Try.underlying58⟩, by kernel_rfl⟩
theorem tab59 : RowOk Try.prog ⟨59, .slice 4, 1, 24, .slice none 0 0⟩ := ⟨Try.underlying59, by kernel_rfl⟩
theorem tab60 : RowOk Try.prog ⟨60, .fn, 1, 8, .nilFunc⟩ := ⟨⟨_, _, _, Try.underlying60⟩, by kernel_rfl⟩
theorem tab61 : RowOk Try.prog ⟨61, .fn, 1, 8, .nilFunc⟩ := ⟨⟨_, _, _, Try.underlying61⟩, by kernel_rfl⟩
theorem tab62 : RowOk Try.prog ⟨62, .ptr 92, 1, 8, .pointer none⟩ := ⟨Try.underlying62, by kernel_rfl⟩
theorem tab63 : RowOk Try.prog ⟨63, .fn, 1, 8, .nilFunc⟩ := ⟨⟨_, _, _, Try.underlying63⟩, by kernel_rfl⟩
theorem tab65 : RowOk Try.prog ⟨65, .fn, 1, 8, .nilFunc⟩ := ⟨⟨_, _, _, Try.underlying65⟩, by kernel_rfl⟩
theorem tab66 : RowOk Try.prog ⟨66, .fn, 1, 8, .nilFunc⟩ := ⟨⟨_, _, _, Try.underlying66⟩, by kernel_rfl⟩
theorem tab67 : RowOk Try.prog ⟨67, .fn, 1, 8, .nilFunc⟩ := ⟨⟨_, _, _, Try.underlying67⟩, by kernel_rfl⟩
theorem tab68 : RowOk Try.prog ⟨68, .slice 5, 1, 24, .slice none 0 0⟩ := ⟨Try.underlying68, by kernel_rfl⟩
theorem tab69 : RowOk Try.prog ⟨69, .fn, 1, 8, .nilFunc⟩ := ⟨⟨_, _, _, Try.underlying69⟩, by kernel_rfl⟩
theorem tab70 : RowOk Try.prog ⟨70, .fn, 1, 8, .nilFunc⟩ := ⟨⟨_, _, _, Try.underlying70⟩, by kernel_rfl⟩
theorem tab71 : RowOk Try.prog ⟨71, .fn, 1, 8, .nilFunc⟩ := ⟨⟨_, _, _, Try.underlying71⟩, by kernel_rfl⟩
theorem tab72 : RowOk Try.prog ⟨72, .slice 74, 1, 24, .slice none 0 0⟩ := ⟨Try.underlying72, by kernel_rfl⟩
theorem tab73 : RowOk Try.prog ⟨73, .struct [(0, 3), (1, 3), (2, 9), (3, 4)], 4, 40, .agg #[.int .i64 0, .int .i64 0, .string ⟨#[]⟩, .bool false]⟩ := ⟨⟨_, Try.underlying73, by kernel_rfl⟩, by kernel_rfl⟩
theorem tab74 : RowOk Try.prog ⟨74, .struct [(0, 3), (1, 3), (2, 9), (3, 4)], 4, 40, .agg #[.int .i64 0, .int .i64 0, .string ⟨#[]⟩, .bool false]⟩ := ⟨⟨_, Try.underlying74, by kernel_rfl⟩, by kernel_rfl⟩
theorem tab75 : RowOk Try.prog ⟨75, .fn, 1, 8, .nilFunc⟩ := ⟨⟨_, _, _, Try.underlying75⟩, by kernel_rfl⟩
theorem tab76 : RowOk Try.prog ⟨76, .fn, 1, 8, .nilFunc⟩ := ⟨⟨_, _, _, Try.underlying76⟩, by kernel_rfl⟩
theorem tab77 : RowOk Try.prog ⟨77, .fn, 1, 8, .nilFunc⟩ := ⟨⟨_, _, _, Try.underlying77⟩, by kernel_rfl⟩
theorem tab78 : RowOk Try.prog ⟨78, .fn, 1, 8, .nilFunc⟩ := ⟨⟨_, _, _, Try.underlying78⟩, by kernel_rfl⟩
theorem tab79 : RowOk Try.prog ⟨79, .fn, 1, 8, .nilFunc⟩ := ⟨⟨_, _, _, Try.underlying79⟩, by kernel_rfl⟩
theorem tab80 : RowOk Try.prog ⟨80, .fn, 1, 8, .nilFunc⟩ := ⟨⟨_, _, _, Try.underlying80⟩, by kernel_rfl⟩
theorem tab81 : RowOk Try.prog ⟨81, .fn, 1, 8, .nilFunc⟩ := ⟨⟨_, _, _, Try.underlying81⟩, by kernel_rfl⟩
theorem tab83 : RowOk Try.prog ⟨83, .fn, 1, 8, .nilFunc⟩ := ⟨⟨_, _, _, Try.underlying83⟩, by kernel_rfl⟩
theorem tab84 : RowOk Try.prog ⟨84, .fn, 1, 8, .nilFunc⟩ := ⟨⟨_, _, _, Try.underlying84⟩, by kernel_rfl⟩
theorem tab85 : RowOk Try.prog ⟨85, .iface, 1, 16, .nilIface⟩ := ⟨⟨_, Try.underlying85⟩, by kernel_rfl⟩
theorem tab86 : RowOk Try.prog ⟨86, .iface, 1, 16, .nilIface⟩ := ⟨⟨_, Try.underlying86⟩, by kernel_rfl⟩
theorem tab87 : RowOk Try.prog ⟨87, .fn, 1, 8, .nilFunc⟩ := ⟨⟨_, _, _, Try.underlying87⟩, by kernel_rfl⟩
theorem tab88 : RowOk Try.prog ⟨88, .fn, 1, 8, .nilFunc⟩ := ⟨⟨_, _, _, Try.underlying88⟩, by kernel_rfl⟩
theorem tab89 : RowOk Try.prog ⟨89, .map 3 9, 1, 8, .map none⟩ := ⟨Try.underlying89, by kernel_rfl⟩
theorem tab90 : RowOk Try.prog ⟨90, .map 3 9, 1, 8, .map none⟩ := ⟨Try.underlying90, by kernel_rfl⟩
theorem tab91 : RowOk Try.prog ⟨91, .struct [(0, 3), (1, 35), (7, 90), (8, 3)], 9, 72, .agg #[.int .i64 0, .int .i64 0, .int .i64 0, .int .i64 0, .int .i64 0, .int .i64 0, .int .u64 0, .map none, .int .i64 0]⟩ := ⟨⟨_, Try.underlying91, by kernel_rfl⟩, by kernel_rfl⟩
theorem tab92 : RowOk Try.prog ⟨92, .struct [(0, 3), (1, 35), (7, 90), (8, 3)], 9, 72, .agg #[.int .i64 0, .int .i64 0, .int .i64 0, .int .i64 0, .int .i64 0, .int .i64 0, .int .u64 0, .map none, .int .i64 0]⟩ := ⟨⟨_, Try.underlying92, by kernel_rfl⟩, by kernel_rfl⟩
theorem tab93 : RowOk Try.prog ⟨93, .fn, 1, 8, .nilFunc⟩ := ⟨⟨_, _, _, Try.underlying93⟩, by kernel_rfl⟩
theorem tab95 : RowOk Try.prog ⟨95, .fn, 1, 8, .nilFunc⟩ := ⟨⟨_, _, _, Try.underlying95⟩, by kernel_rfl⟩
theorem tab96 : RowOk Try.prog ⟨96, .fn, 1, 8, .nilFunc⟩ := ⟨⟨_, _, _, Try.underlying96⟩, by kernel_rfl⟩
theorem tab97 : RowOk Try.prog ⟨97, .ptr 99, 1, 8, .pointer none⟩ := ⟨Try.underlying97, by kernel_rfl⟩
theorem tab98 : RowOk Try.prog ⟨98, .struct [(0, 97), (1, 68)], 2, 32, .agg #[.pointer none, .slice none 0 0]⟩ := ⟨⟨_, Try.underlying98, by kernel_rfl⟩, by kernel_rfl⟩
theorem tab99 : RowOk Try.prog ⟨99, .struct [(0, 97), (1, 68)], 2, 32, .agg #[.pointer none, .slice none 0 0]⟩ := ⟨⟨_, Try.underlying99, by kernel_rfl⟩, by kernel_rfl⟩
theorem tab100 : RowOk Try.prog ⟨100, .iface, 1, 16, .nilIface⟩ := ⟨⟨_, Try.underlying100⟩, by kernel_rfl⟩
theorem tab101 : RowOk Try.prog ⟨101, .iface, 1, 16, .nilIface⟩ := ⟨⟨_, Try.underlying101⟩, by kernel_rfl⟩
theorem tab103 : RowOk Try.prog ⟨103, .fn, 1, 8, .nilFunc⟩ := ⟨⟨_, _, _, Try.underlying103⟩, by kernel_rfl⟩
theorem tab104 : RowOk Try.prog ⟨104, .fn, 1, 8, .nilFunc⟩ := ⟨⟨_, _, _, Try.underlying104⟩, by kernel_rfl⟩
theorem tab106 : RowOk Try.prog ⟨106, .int .u32, 1, 4, .int .u32 0⟩ := ⟨Try.underlying106, by kernel_rfl⟩
theorem tab108 : RowOk Try.prog ⟨108, .fn, 1, 8, .nilFunc⟩ := ⟨⟨_, _, _, Try.underlying108⟩, by kernel_rfl⟩
theorem tab110 : RowOk Try.prog ⟨110, .fn, 1, 8, .nilFunc⟩ := ⟨⟨_, _, _, Try.underlying110⟩, by kernel_rfl⟩
theorem tab111 : RowOk Try.prog ⟨111, .ptr 5, 1, 8, .pointer none⟩ := ⟨Try.underlying111, by kernel_rfl⟩
theorem tab113 : RowOk Try.prog ⟨113, .fn, 1, 8, .nilFunc⟩ := ⟨⟨_, _, _, Try.underlying113⟩, by kernel_rfl⟩
theorem tab114 : RowOk Try.prog ⟨114, .fn, 1, 8, .nilFunc⟩ := ⟨⟨_, _, _, Try.underlying114⟩, by kernel_rfl⟩
theorem tab115 : RowOk Try.prog ⟨115, .struct [(0, 17), (1, 17), (2, 17), (3, 9)], 4, 40, .agg #[.pointer none, .pointer none, .pointer none, .string ⟨#[]⟩]⟩ := ⟨⟨_, Try.underlying115, by kernel_rfl⟩, by kernel_rfl⟩
theorem tab116 : RowOk Try.prog ⟨116, .struct [(0, 17), (1, 17), (2, 17), (3, 9)], 4, 40, .agg #[.pointer none, .pointer none, .pointer none, .string ⟨#[]⟩]⟩ := ⟨⟨_, Try.underlying116, by kernel_rfl⟩, by kernel_rfl⟩
theorem tab117 : RowOk Try.prog ⟨117, .array 0 16, 0, 0, .agg #[]⟩ := ⟨Try.underlying117, by kernel_rfl⟩
theorem tab118 : RowOk Try.prog ⟨118, .struct [(0, 117)], 0, 0, .agg #[]⟩ := ⟨⟨_, Try.underlying118, by kernel_rfl⟩, by kernel_rfl⟩
theorem tab119 : RowOk Try.prog ⟨119, .struct [(0, 117)], 0, 0, .agg #[]⟩ := ⟨⟨_, Try.underlying119, by kernel_rfl⟩, by kernel_rfl⟩
theorem tab120 : RowOk Try.prog ⟨120, .int .u8, 1, 1, .int .u8 0⟩ := ⟨Try.underlying120, by kernel_rfl⟩
theorem tab121 : RowOk Try.prog ⟨121, .int .u8, 1, 1, .int .u8 0⟩ := ⟨Try.underlying121, by kernel_rfl⟩
theorem tab122 : RowOk Try.prog ⟨122, .fn, 1, 8, .nilFunc⟩ := ⟨⟨_, _, _, Try.underlying122⟩, by kernel_rfl⟩
theorem tab123 : RowOk Try.prog ⟨123, .int .i32, 1, 4, .int .i32 0⟩ := ⟨Try.underlying123, by kernel_rfl⟩
theorem tab124 : RowOk Try.prog ⟨124, .int .i32, 1, 4, .int .i32 0⟩ := ⟨Try.underlying124, by kernel_rfl⟩
theorem tab125 : RowOk Try.prog ⟨125, .struct [(0, 12), (1, 12), (2, 106), (3, 120), (4, 5), (5, 5), (6, 121), (7, 122), (8, 111), (9, 123), (10, 124)], 11, 48, .agg #[.int .u64 0, .int .u64 0, .int .u32 0, .int .u8 0, .int .u8 0, .int .u8 0, .int .u8 0, .nilFunc, .pointer none, .int .i32 0, .int .i32 0]⟩ := ⟨⟨_, Try.underlying125, by kernel_rfl⟩, by kernel_rfl⟩
theorem tab126 : RowOk Try.prog ⟨126, .struct [(0, 12), (1, 12), (2, 106), (3, 120), (4, 5), (5, 5), (6, 121), (7, 122), (8, 111), (9, 123), (10, 124)], 11, 48, .agg #[.int .u64 0, .int .u64 0, .int .u32 0, .int .u8 0, .int .u8 0, .int .u8 0, .int .u8 0, .nilFunc, .pointer none, .int .i32 0, .int .i32 0]⟩ := ⟨⟨_, Try.underlying126, by kernel_rfl⟩, by kernel_rfl⟩
theorem tabOk : TabOk Try.prog tab :=
  .cons tab1 <|
  .cons tab2 <|
  .cons tab3 <|
  .cons tab4 <|
  .cons tab5 <|
  .cons tab6 <|
  .cons tab7 <|
  .cons tab8 <|
  .cons tab9 <|
  .cons tab10 <|
  .cons tab11 <|
  .cons tab12 <|
  .cons tab13 <|
  .cons tab14 <|
  .cons tab15 <|
  .cons tab16 <|
  .cons tab17 <|
  .cons tab18 <|
  .cons tab19 <|
  .cons tab20 <|
  .cons tab21 <|
  .cons tab22 <|
  .cons tab23 <|
  .cons tab24 <|
  .cons tab25 <|
  .cons tab26 <|
  .cons tab28 <|
  .cons tab30 <|
  .cons tab31 <|
  .cons tab32 <|
  .cons tab33 <|
  .cons tab34 <|
  .cons tab35 <|
  .cons tab36 <|
  .cons tab37 <|
  .cons tab38 <|
  .cons tab39 <|
  .cons tab40 <|
  .cons tab41 <|
  .cons tab42 <|
  .cons tab43 <|
  .cons tab44 <|
  .cons tab45 <|
  .cons tab46 <|
  .cons tab47 <|
  .cons tab48 <|
  .cons tab50 <|
  .cons tab51 <|
  .cons tab53 <|
  .cons tab54 <|
  .cons tab55 <|
  .cons tab56 <|
  .cons tab57 <|
  .cons tab58 <|
  .cons tab59 <|
  .cons tab60 <|
  .cons tab61 <|
  .cons tab62 <|
  .cons tab63 <|
  .cons tab65 <|
  .cons tab66 <|
  .cons tab67 <|
  .cons tab68 <|
  .cons tab69 <|
  .cons tab70 <|
  .cons tab71 <|
  .cons tab72 <|
  .cons tab73 <|
  .cons tab74 <|
  .cons tab75 <|
  .cons tab76 <|
  .cons tab77 <|
  .cons tab78 <|
  .cons tab79 <|
  .cons tab80 <|
  .cons tab81 <|
  .cons tab83 <|
  .cons tab84 <|
  .cons tab85 <|
  .cons tab86 <|
  .cons tab87 <|
  .cons tab88 <|
  .cons tab89 <|
  .cons tab90 <|
  .cons tab91 <|
  .cons tab92 <|
  .cons tab93 <|
  .cons tab95 <|
  .cons tab96 <|
  .cons tab97 <|
  .cons tab98 <|
  .cons tab99 <|
  .cons tab100 <|
  .cons tab101 <|
  .cons tab103 <|
  .cons tab104 <|
  .cons tab106 <|
  .cons tab108 <|
  .cons tab110 <|
  .cons tab111 <|
  .cons tab113 <|
  .cons tab114 <|
  .cons tab115 <|
  .cons tab116 <|
  .cons tab117 <|
  .cons tab118 <|
  .cons tab119 <|
  .cons tab120 <|
  .cons tab121 <|
  .cons tab122 <|
  .cons tab123 <|
  .cons tab124 <|
  .cons tab125 <|
  .cons tab126 <| .nil
theorem mixed : Try.prog.follows .mixedOrders = true := by kernel_rfl
end Go.Proofs.Ytcfnokifghpnpaa
