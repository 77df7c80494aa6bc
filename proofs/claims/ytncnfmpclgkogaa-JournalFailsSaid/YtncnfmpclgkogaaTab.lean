/- The table of types of this seat, and that it is right. -/
import Derived.Test.YtncnfmpclgkogaaRows
import Derived.Test.YtncnfmpclgkogaaEngL
namespace Go.Proofs.Ytncnfmpclgkogaa
open Go.RowKit
def tab : Tab := [
  ⟨1, .fn, 1, 8, .nilFunc⟩,
  ⟨2, .int .i64, 1, 8, .int .i64 0⟩,
  ⟨3, .int .i64, 1, 8, .int .i64 0⟩,
  ⟨4, .bool, 1, 1, .bool false⟩,
  ⟨5, .int .u8, 1, 1, .int .u8 0⟩,
  ⟨6, .int .u8, 1, 1, .int .u8 0⟩,
  ⟨7, .struct [(0, 2), (1, 3), (2, 4), (3, 6)], 4, 24, .agg #[.int .i64 0, .int .i64 0, .bool false, .int .u8 0]⟩,
  ⟨8, .struct [(0, 2), (1, 3), (2, 4), (3, 6)], 4, 24, .agg #[.int .i64 0, .int .i64 0, .bool false, .int .u8 0]⟩,
  ⟨9, .string, 1, 16, .string ⟨#[]⟩⟩,
  ⟨10, .string, 1, 16, .string ⟨#[]⟩⟩,
  ⟨11, .string, 1, 16, .string ⟨#[]⟩⟩,
  ⟨12, .int .u64, 1, 8, .int .u64 0⟩,
  ⟨13, .struct [(0, 9), (1, 12)], 2, 24, .agg #[.string ⟨#[]⟩, .int .u64 0]⟩,
  ⟨14, .struct [(0, 9), (1, 12)], 2, 24, .agg #[.string ⟨#[]⟩, .int .u64 0]⟩,
  ⟨15, .ptr 159, 1, 8, .pointer none⟩,
  ⟨16, .ptr 162, 1, 8, .pointer none⟩,
  ⟨17, .ptr 169, 1, 8, .pointer none⟩,
  ⟨18, .struct [(0, 17)], 1, 8, .agg #[.pointer none]⟩,
  ⟨19, .struct [(0, 17)], 1, 8, .agg #[.pointer none]⟩,
  ⟨20, .iface, 1, 16, .nilIface⟩,
  ⟨21, .int .i32, 1, 4, .int .i32 0⟩,
  ⟨22, .slice 34, 1, 24, .slice none 0 0⟩,
  ⟨23, .fn, 1, 8, .nilFunc⟩,
  ⟨24, .int .u64, 1, 8, .int .u64 0⟩,
  ⟨25, .ptr 54, 1, 8, .pointer none⟩,
  ⟨26, .fn, 1, 8, .nilFunc⟩,
  ⟨27, .ptr 58, 1, 8, .pointer none⟩,
  ⟨28, .int .i64, 1, 8, .int .i64 0⟩,
  ⟨30, .fn, 1, 8, .nilFunc⟩,
  ⟨31, .int .u64, 1, 8, .int .u64 0⟩,
  ⟨32, .slice 39, 1, 24, .slice none 0 0⟩,
  ⟨33, .struct [(0, 3), (1, 5), (2, 4)], 3, 16, .agg #[.int .i64 0, .int .u8 0, .bool false]⟩,
  ⟨34, .struct [(0, 3), (1, 5), (2, 4)], 3, 16, .agg #[.int .i64 0, .int .u8 0, .bool false]⟩,
  ⟨35, .fn, 1, 8, .nilFunc⟩,
  ⟨36, .fn, 1, 8, .nilFunc⟩,
  ⟨37, .fn, 1, 8, .nilFunc⟩,
  ⟨38, .struct [(0, 3), (1, 9)], 2, 24, .agg #[.int .i64 0, .string ⟨#[]⟩]⟩,
  ⟨39, .struct [(0, 3), (1, 9)], 2, 24, .agg #[.int .i64 0, .string ⟨#[]⟩]⟩,
  ⟨40, .fn, 1, 8, .nilFunc⟩,
  ⟨41, .fn, 1, 8, .nilFunc⟩,
  ⟨43, .fn, 1, 8, .nilFunc⟩,
  ⟨44, .fn, 1, 8, .nilFunc⟩,
  ⟨45, .fn, 1, 8, .nilFunc⟩,
  ⟨46, .fn, 1, 8, .nilFunc⟩,
  ⟨47, .fn, 1, 8, .nilFunc⟩,
  ⟨48, .fn, 1, 8, .nilFunc⟩,
  ⟨49, .fn, 1, 8, .nilFunc⟩,
  ⟨50, .fn, 1, 8, .nilFunc⟩,
  ⟨51, .fn, 1, 8, .nilFunc⟩,
  ⟨52, .map 9 72, 1, 8, .map none⟩,
  ⟨53, .struct [(0, 52), (1, 3), (2, 4), (3, 3), (4, 3), (5, 3), (6, 3), (7, 3)], 8, 64, .agg #[.map none, .int .i64 0, .bool false, .int .i64 0, .int .i64 0, .int .i64 0, .int .i64 0, .int .i64 0]⟩,
  ⟨54, .struct [(0, 52), (1, 3), (2, 4), (3, 3), (4, 3), (5, 3), (6, 3), (7, 3)], 8, 64, .agg #[.map none, .int .i64 0, .bool false, .int .i64 0, .int .i64 0, .int .i64 0, .int .i64 0, .int .i64 0]⟩,
  ⟨55, .fn, 1, 8, .nilFunc⟩,
  ⟨56, .map 3 4, 1, 8, .map none⟩,
  ⟨57, .struct [(0, 25), (1, 3), (2, 31), (3, 56), (4, 3), (5, 3)], 6, 48, .agg #[.pointer none, .int .i64 0, .int .u64 0, .map none, .int .i64 0, .int .i64 0]⟩,
  ⟨58, .struct [(0, 25), (1, 3), (2, 31), (3, 56), (4, 3), (5, 3)], 6, 48, .agg #[.pointer none, .int .i64 0, .int .u64 0, .map none, .int .i64 0, .int .i64 0]⟩,
  ⟨59, .fn, 1, 8, .nilFunc⟩,
  ⟨60, .struct [(0, 3), (1, 3), (2, 31), (3, 9)], 4, 40, .agg #[.int .i64 0, .int .i64 0, .int .u64 0, .string ⟨#[]⟩]⟩,
  ⟨61, .struct [(0, 3), (1, 3), (2, 31), (3, 9)], 4, 40, .agg #[.int .i64 0, .int .i64 0, .int .u64 0, .string ⟨#[]⟩]⟩,
  ⟨62, .slice 5, 1, 24, .slice none 0 0⟩,
  ⟨63, .fn, 1, 8, .nilFunc⟩,
  ⟨64, .fn, 1, 8, .nilFunc⟩,
  ⟨65, .ptr 67, 1, 8, .pointer none⟩,
  ⟨66, .struct [(0, 65), (1, 62)], 2, 32, .agg #[.pointer none, .slice none 0 0]⟩,
  ⟨67, .struct [(0, 65), (1, 62)], 2, 32, .agg #[.pointer none, .slice none 0 0]⟩,
  ⟨68, .slice 73, 1, 24, .slice none 0 0⟩,
  ⟨69, .slice 4, 1, 24, .slice none 0 0⟩,
  ⟨70, .struct [(0, 68), (1, 68), (2, 69), (3, 4)], 4, 80, .agg #[.slice none 0 0, .slice none 0 0, .slice none 0 0, .bool false]⟩,
  ⟨71, .struct [(0, 68), (1, 68), (2, 69), (3, 4)], 4, 80, .agg #[.slice none 0 0, .slice none 0 0, .slice none 0 0, .bool false]⟩,
  ⟨72, .ptr 71, 1, 8, .pointer none⟩,
  ⟨73, .ptr 75, 1, 8, .pointer none⟩,
  ⟨74, .struct [(0, 9), (1, 4)], 2, 24, .agg #[.string ⟨#[]⟩, .bool false]⟩,
  ⟨75, .struct [(0, 9), (1, 4)], 2, 24, .agg #[.string ⟨#[]⟩, .bool false]⟩,
  ⟨76, .iface, 1, 16, .nilIface⟩,
  ⟨77, .iface, 1, 16, .nilIface⟩,
  ⟨79, .fn, 1, 8, .nilFunc⟩,
  ⟨80, .fn, 1, 8, .nilFunc⟩,
  ⟨81, .fn, 1, 8, .nilFunc⟩,
  ⟨82, .ptr 84, 1, 8, .pointer none⟩,
  ⟨83, .struct [(0, 3), (1, 3), (2, 31), (3, 32), (4, 32)], 5, 72, .agg #[.int .i64 0, .int .i64 0, .int .u64 0, .slice none 0 0, .slice none 0 0]⟩,
  ⟨84, .struct [(0, 3), (1, 3), (2, 31), (3, 32), (4, 32)], 5, 72, .agg #[.int .i64 0, .int .i64 0, .int .u64 0, .slice none 0 0, .slice none 0 0]⟩,
  ⟨86, .fn, 1, 8, .nilFunc⟩,
  ⟨88, .fn, 1, 8, .nilFunc⟩,
  ⟨89, .fn, 1, 8, .nilFunc⟩,
  ⟨90, .fn, 1, 8, .nilFunc⟩,
  ⟨91, .fn, 1, 8, .nilFunc⟩,
  ⟨92, .fn, 1, 8, .nilFunc⟩,
  ⟨93, .fn, 1, 8, .nilFunc⟩,
  ⟨94, .fn, 1, 8, .nilFunc⟩,
  ⟨96, .fn, 1, 8, .nilFunc⟩,
  ⟨97, .fn, 1, 8, .nilFunc⟩,
  ⟨99, .fn, 1, 8, .nilFunc⟩,
  ⟨100, .fn, 1, 8, .nilFunc⟩,
  ⟨101, .fn, 1, 8, .nilFunc⟩,
  ⟨102, .ptr 5, 1, 8, .pointer none⟩,
  ⟨103, .fn, 1, 8, .nilFunc⟩,
  ⟨104, .fn, 1, 8, .nilFunc⟩,
  ⟨106, .fn, 1, 8, .nilFunc⟩,
  ⟨107, .fn, 1, 8, .nilFunc⟩,
  ⟨108, .fn, 1, 8, .nilFunc⟩,
  ⟨109, .map 3 9, 1, 8, .map none⟩,
  ⟨110, .fn, 1, 8, .nilFunc⟩,
  ⟨111, .fn, 1, 8, .nilFunc⟩,
  ⟨112, .fn, 1, 8, .nilFunc⟩,
  ⟨113, .slice 3, 1, 24, .slice none 0 0⟩,
  ⟨114, .fn, 1, 8, .nilFunc⟩,
  ⟨115, .fn, 1, 8, .nilFunc⟩,
  ⟨116, .fn, 1, 8, .nilFunc⟩,
  ⟨117, .fn, 1, 8, .nilFunc⟩,
  ⟨118, .fn, 1, 8, .nilFunc⟩,
  ⟨119, .fn, 1, 8, .nilFunc⟩,
  ⟨120, .fn, 1, 8, .nilFunc⟩,
  ⟨122, .fn, 1, 8, .nilFunc⟩,
  ⟨123, .int .u32, 1, 4, .int .u32 0⟩,
  ⟨125, .fn, 1, 8, .nilFunc⟩,
  ⟨127, .fn, 1, 8, .nilFunc⟩,
  ⟨128, .fn, 1, 8, .nilFunc⟩,
  ⟨129, .fn, 1, 8, .nilFunc⟩,
  ⟨130, .fn, 1, 8, .nilFunc⟩,
  ⟨131, .fn, 1, 8, .nilFunc⟩,
  ⟨132, .fn, 1, 8, .nilFunc⟩,
  ⟨133, .fn, 1, 8, .nilFunc⟩,
  ⟨134, .fn, 1, 8, .nilFunc⟩,
  ⟨135, .fn, 1, 8, .nilFunc⟩,
  ⟨136, .fn, 1, 8, .nilFunc⟩,
  ⟨137, .fn, 1, 8, .nilFunc⟩,
  ⟨138, .fn, 1, 8, .nilFunc⟩,
  ⟨139, .int .i64, 1, 8, .int .i64 0⟩,
  ⟨141, .fn, 1, 8, .nilFunc⟩,
  ⟨142, .fn, 1, 8, .nilFunc⟩,
  ⟨143, .fn, 1, 8, .nilFunc⟩,
  ⟨144, .fn, 1, 8, .nilFunc⟩,
  ⟨146, .fn, 1, 8, .nilFunc⟩,
  ⟨147, .fn, 1, 8, .nilFunc⟩,
  ⟨148, .fn, 1, 8, .nilFunc⟩,
  ⟨149, .int .u64, 1, 8, .int .u64 0⟩,
  ⟨150, .fn, 1, 8, .nilFunc⟩,
  ⟨151, .fn, 1, 8, .nilFunc⟩,
  ⟨152, .fn, 1, 8, .nilFunc⟩,
  ⟨153, .ptr 3, 1, 8, .pointer none⟩,
  ⟨154, .fn, 1, 8, .nilFunc⟩,
  ⟨155, .ptr 149, 1, 8, .pointer none⟩,
  ⟨157, .fn, 1, 8, .nilFunc⟩,
  ⟨158, .struct [(0, 17), (1, 17), (2, 17), (3, 9)], 4, 40, .agg #[.pointer none, .pointer none, .pointer none, .string ⟨#[]⟩]⟩,
  ⟨159, .struct [(0, 17), (1, 17), (2, 17), (3, 9)], 4, 40, .agg #[.pointer none, .pointer none, .pointer none, .string ⟨#[]⟩]⟩,
  ⟨160, .array 0 16, 0, 0, .agg #[]⟩,
  ⟨161, .struct [(0, 160)], 0, 0, .agg #[]⟩,
  ⟨162, .struct [(0, 160)], 0, 0, .agg #[]⟩,
  ⟨163, .int .u8, 1, 1, .int .u8 0⟩,
  ⟨164, .int .u8, 1, 1, .int .u8 0⟩,
  ⟨165, .fn, 1, 8, .nilFunc⟩,
  ⟨166, .int .i32, 1, 4, .int .i32 0⟩,
  ⟨167, .int .i32, 1, 4, .int .i32 0⟩,
  ⟨168, .struct [(0, 12), (1, 12), (2, 123), (3, 163), (4, 5), (5, 5), (6, 164), (7, 165), (8, 102), (9, 166), (10, 167)], 11, 48, .agg #[.int .u64 0, .int .u64 0, .int .u32 0, .int .u8 0, .int .u8 0, .int .u8 0, .int .u8 0, .nilFunc, .pointer none, .int .i32 0, .int .i32 0]⟩,
  ⟨169, .struct [(0, 12), (1, 12), (2, 123), (3, 163), (4, 5), (5, 5), (6, 164), (7, 165), (8, 102), (9, 166), (10, 167)], 11, 48, .agg #[.int .u64 0, .int .u64 0, .int .u32 0, .int .u8 0, .int .u8 0, .int .u8 0, .int .u8 0, .nilFunc, .pointer none, .int .i32 0, .int .i32 0]⟩]
theorem tab1 : RowOk Try.prog ⟨1, .fn, 1, 8, .nilFunc⟩ := ⟨⟨_, _, _, Try.underlying1⟩, by kernel_rfl⟩
theorem tab2 : RowOk Try.prog ⟨2, .int .i64, 1, 8, .int .i64 0⟩ := ⟨Try.underlying2, by kernel_rfl⟩
theorem tab3 : RowOk Try.prog ⟨3, .int .i64, 1, 8, .int .i64 0⟩ := ⟨Try.underlying3, by kernel_rfl⟩
theorem tab4 : RowOk Try.prog ⟨4, .bool, 1, 1, .bool false⟩ := ⟨Try.underlying4, by kernel_rfl⟩
theorem tab5 : RowOk Try.prog ⟨5, .int .u8, 1, 1, .int .u8 0⟩ := ⟨Try.underlying5, by kernel_rfl⟩
theorem tab6 : RowOk Try.prog ⟨6, .int .u8, 1, 1, .int .u8 0⟩ := ⟨Try.underlying6, by kernel_rfl⟩
theorem tab7 : RowOk Try.prog ⟨7, .struct [(0, 2), (1, 3), (2, 4), (3, 6)], 4, 24, .agg #[.int .i64 0, .int .i64 0, .bool false, .int .u8 0]⟩ := ⟨⟨_, Try.underlying7, by kernel_rfl⟩, by kernel_rfl⟩
theorem tab8 : RowOk Try.prog ⟨8, .struct [(0, 2), (1, 3), (2, 4), (3, 6)], 4, 24, .agg #[.int .i64 0, .int .i64 0, .bool false, .int .u8 0]⟩ := ⟨⟨_, Try.underlying8, by kernel_rfl⟩, by kernel_rfl⟩
theorem tab9 : RowOk Try.prog ⟨9, .string, 1, 16, .string ⟨#[]⟩⟩ := ⟨Try.underlying9, by kernel_rfl⟩
theorem tab10 : RowOk Try.prog ⟨10, .string, 1, 16, .string ⟨#[]⟩⟩ := ⟨Try.underlying10, by kernel_rfl⟩
theorem tab11 : RowOk Try.prog ⟨11, .string, 1, 16, .string ⟨#[]⟩⟩ := ⟨Try.underlying11, by kernel_rfl⟩
theorem tab12 : RowOk Try.prog ⟨12, .int .u64, 1, 8, .int .u64 0⟩ := ⟨Try.underlying12, by kernel_rfl⟩
theorem tab13 : RowOk Try.prog ⟨13, .struct [(0, 9), (1, 12)], 2, 24, .agg #[.string ⟨#[]⟩, .int .u64 0]⟩ := ⟨⟨_, Try.underlying13, by kernel_rfl⟩, by kernel_rfl⟩
theorem tab14 : RowOk Try.prog ⟨14, .struct [(0, 9), (1, 12)], 2, 24, .agg #[.string ⟨#[]⟩, .int .u64 0]⟩ := ⟨⟨_, Try.underlying14, by kernel_rfl⟩, by kernel_rfl⟩
theorem tab15 : RowOk Try.prog ⟨15, .ptr 159, 1, 8, .pointer none⟩ := ⟨Try.underlying15, by kernel_rfl⟩
theorem tab16 : RowOk Try.prog ⟨16, .ptr 162, 1, 8, .pointer none⟩ := ⟨Try.underlying16, by kernel_rfl⟩
theorem tab17 : RowOk Try.prog ⟨17, .ptr 169, 1, 8, .pointer none⟩ := ⟨Try.underlying17, by kernel_rfl⟩
theorem tab18 : RowOk Try.prog ⟨18, .struct [(0, 17)], 1, 8, .agg #[.pointer none]⟩ := ⟨⟨_, Try.underlying18, by kernel_rfl⟩, by kernel_rfl⟩
theorem tab19 : RowOk Try.prog ⟨19, .struct [(0, 17)], 1, 8, .agg #[.pointer none]⟩ := ⟨⟨_, Try.underlying19, by kernel_rfl⟩, by kernel_rfl⟩
theorem tab20 : RowOk Try.prog ⟨20, .iface, 1, 16, .nilIface⟩ := ⟨⟨_, Try.underlying20⟩, by kernel_rfl⟩
theorem tab21 : RowOk Try.prog ⟨21, .int .i32, 1, 4, .int .i32 0⟩ := ⟨Try.underlying21, by kernel_rfl⟩
theorem tab22 : RowOk Try.prog ⟨22, .slice 34, 1, 24, .slice none 0 0⟩ := ⟨Try.underlying22, by kernel_rfl⟩
theorem tab23 : RowOk Try.prog ⟨23, .fn, 1, 8, .nilFunc⟩ := ⟨⟨_, _, _, Try.underlying23⟩, by kernel_rfl⟩
theorem tab24 : RowOk Try.prog ⟨24, .int .u64, 1, 8, .int .u64 0⟩ := ⟨Try.underlying24, by kernel_rfl⟩
theorem tab25 : RowOk Try.prog ⟨25, .ptr 54, 1, 8, .pointer none⟩ := ⟨Try.underlying25, by kernel_rfl⟩
theorem tab26 : RowOk Try.prog ⟨26, .fn, 1, 8, .nilFunc⟩ := ⟨⟨_, _, _, Try.underlying26⟩, by kernel_rfl⟩
theorem tab27 : RowOk Try.prog ⟨27, .ptr 58, 1, 8, .pointer none⟩ := ⟨Try.underlying27, by kernel_rfl⟩
theorem tab28 : RowOk Try.prog ⟨28, .int .i64, 1, 8, .int .i64 0⟩ := ⟨Try.underlying28, by kernel_rfl⟩
theorem tab30 : RowOk Try.prog ⟨30, .fn, 1, 8, .nilFunc⟩ := ⟨⟨_, _, _, Try.underlying30⟩, by kernel_rfl⟩
theorem tab31 : RowOk Try.prog ⟨31, .int .u64, 1, 8, .int .u64 0⟩ := ⟨Try.underlying31, by kernel_rfl⟩
theorem tab32 : RowOk Try.prog ⟨32, .slice 39, 1, 24, .slice none 0 0⟩ := ⟨Try.underlying32, by kernel_rfl⟩
theorem tab33 : RowOk Try.prog ⟨33, .struct [(0, 3), (1, 5), (2, 4)], 3, 16, .agg #[.int .i64 0, .int .u8 0, .bool false]⟩ := ⟨⟨_, Try.underlying33, by kernel_rfl⟩, by kernel_rfl⟩
theorem tab34 : RowOk Try.prog ⟨34, .struct [(0, 3), (1, 5), (2, 4)], 3, 16, .agg #[.int .i64 0, .int .u8 0, .bool false]⟩ := ⟨⟨_, Try.underlying34, by kernel_rfl⟩, by kernel_rfl⟩
theorem tab35 : RowOk Try.prog ⟨35, .fn, 1, 8, .nilFunc⟩ := ⟨⟨_, _, _, Try.underlying35⟩, by kernel_rfl⟩
theorem tab36 : RowOk Try.prog ⟨36, .fn, 1, 8, .nilFunc⟩ := ⟨⟨_, _, _, Try.underlying36⟩, by kernel_rfl⟩
theorem tab37 : RowOk Try.prog ⟨37, .fn, 1, 8, .nilFunc⟩ := ⟨⟨_, _, _, Try.underlying37⟩, by kernel_rfl⟩
theorem tab38 : RowOk Try.prog ⟨38, .struct [(0, 3), (1, 9)], 2, 24, .agg #[.int .i64 0, .string ⟨#[]⟩]⟩ := ⟨⟨_, Try.underlying38, by kernel_rfl⟩, by kernel_rfl⟩
theorem tab39 : RowOk Try.prog ⟨39, .struct [(0, 3), (1, 9)], 2, 24, .agg #[.int .i64 0, .string ⟨#[]⟩]⟩ := ⟨⟨_, Try.underlying39, by kernel_rfl⟩, by kernel_rfl⟩
theorem tab40 : RowOk Try.prog ⟨40, .fn, 1, 8, .nilFunc⟩ := ⟨⟨_, _, _, Try.underlying40⟩, by kernel_rfl⟩
theorem tab41 : RowOk Try.prog ⟨41, .fn, 1, 8, .nilFunc⟩ := ⟨⟨_, _, _, Try.underlying41⟩, by kernel_rfl⟩
theorem tab43 : RowOk Try.prog ⟨43, .fn, 1, 8, .nilFunc⟩ := ⟨⟨_, _, _, Try.underlying43⟩, by kernel_rfl⟩
theorem tab44 : RowOk Try.prog ⟨44, .fn, 1, 8, .nilFunc⟩ := ⟨⟨_, _, _, Try.underlying44⟩, by kernel_rfl⟩
theorem tab45 : RowOk Try.prog ⟨45, .fn, 1, 8, .nilFunc⟩ := ⟨⟨_, _, _, Try.underlying45⟩, by kernel_rfl⟩
theorem tab46 : RowOk Try.prog ⟨46, .fn, 1, 8, .nilFunc⟩ := ⟨⟨_, _, _, Try.underlying46⟩, by kernel_rfl⟩
theorem tab47 : RowOk Try.prog ⟨47, .fn, 1, 8, .nilFunc⟩ := ⟨⟨_, _, _, Try.underlying47⟩, by kernel_rfl⟩
theorem tab48 : RowOk Try.prog ⟨48, .fn, 1, 8, .nilFunc⟩ := ⟨⟨_, _, _, Try.underlying48⟩, by kernel_rfl⟩
theorem tab49 : RowOk Try.prog ⟨49, .fn, 1, 8, .nilFunc⟩ := ⟨⟨_, _, _, Try.underlying49⟩, by kernel_rfl⟩
theorem tab50 : RowOk Try.prog ⟨50, .fn, 1, 8, .nilFunc⟩ := ⟨⟨_, _, _, Try.underlying50⟩, by kernel_rfl⟩
theorem tab51 : RowOk Try.prog ⟨51, .fn, 1, 8, .nilFunc⟩ := ⟨⟨_, _, _, Try.underlying51⟩, by kernel_rfl⟩
theorem tab52 : RowOk Try.prog ⟨52, .map 9 72, 1, 8, .map none⟩ := ⟨Try.underlying52, by kernel_rfl⟩
theorem tab53 : RowOk Try.prog ⟨53, .struct [(0, 52), (1, 3), (2, 4), (3, 3), (4, 3), (5, 3), (6, 3), (7, 3)], 8, 64, .agg #[.map none, .int .i64 0, .bool false, .int .i64 0, .int .i64 0, .int .i64 0, .int .i64 0, .int .i64 0]⟩ := ⟨⟨_, Try.underlying53, by kernel_rfl⟩, by kernel_rfl⟩
theorem tab54 : RowOk Try.prog ⟨54, .struct [(0, 52), (1, 3), (2, 4), (3, 3), (4, 3), (5, 3), (6, 3), (7, 3)], 8, 64, .agg #[.map none, .int .i64 0, .bool false, .int .i64 0, .int .i64 0, .int .i64 0, .int .i64 0, .int .i64 0]⟩ := ⟨⟨_, Try.underlying54, by kernel_rfl⟩, by kernel_rfl⟩
theorem tab55 : RowOk Try.prog ⟨55, .fn, 1, 8, .nilFunc⟩ := ⟨⟨_, _, _, Try.underlying55⟩, by kernel_rfl⟩
theorem tab56 : RowOk Try.prog ⟨56, .map 3 4, 1, 8, .map none⟩ := ⟨Try.underlying56, by kernel_rfl⟩
theorem tab57 : RowOk Try.prog ⟨57, .struct [(0, 25), (1, 3), (2, 31), (3, 56), (4, 3), (5, 3)], 6, 48, .agg #[.pointer none, .int .i64 0, .int .u64 0, .map none, .int .i64 0, .int .i64 0]⟩ := ⟨⟨_, Try.underlying57, by kernel_rfl⟩, by kernel_rfl⟩
theorem tab58 : RowOk Try.prog ⟨58, .struct [(0, 25), (1, 3), (2, 31), (3, 56), (4, 3), (5, 3)], 6, 48, .agg #[.pointer none, .int .i64 0, .int .u64 0, .map none, .int .i64 0, .int .i64 0]⟩ := ⟨⟨_, Try.underlying58, by kernel_rfl⟩, by kernel_rfl⟩
theorem tab59 : RowOk Try.prog ⟨59, .fn, 1, 8, .nilFunc⟩ := ⟨⟨_, _, _, Try.underlying59⟩, by kernel_rfl⟩
theorem tab60 : RowOk Try.prog ⟨60, .struct [(0, 3), (1, 3), (2, 31), (3, 9)], 4, 40, .agg #[.int .i64 0, .int .i64 0, .int .u64 0, .string ⟨#[]⟩]⟩ := ⟨⟨_, Try.underlying60, by kernel_rfl⟩, by kernel_rfl⟩
theorem tab61 : RowOk Try.prog ⟨61, .struct [(0, 3), (1, 3), (2, 31), (3, 9)], 4, 40, .agg #[.int .i64 0, .int .i64 0, .int .u64 0, .string ⟨#[]⟩]⟩ := ⟨⟨_, Try.underlying61, by kernel_rfl⟩, by kernel_rfl⟩
theorem tab62 : RowOk Try.prog ⟨62, .slice 5, 1, 24, .slice none 0 0⟩ := ⟨Try.underlying62, by kernel_rfl⟩
theorem tab63 : RowOk Try.prog ⟨63, .fn, 1, 8, .nilFunc⟩ := ⟨⟨_, _, _, Try.underlying63⟩, by kernel_rfl⟩
theorem tab64 : RowOk Try.prog ⟨64, .fn, 1, 8, .nilFunc⟩ := ⟨⟨_, _, _, Try.underlying64⟩, by kernel_rfl⟩
theorem tab65 : RowOk Try.prog ⟨65, .ptr 67, 1, 8, .pointer none⟩ := ⟨Try.underlying65, by kernel_rfl⟩
theorem tab66 : RowOk Try.prog ⟨66, .struct [(0, 65), (1, 62)], 2, 32, .agg #[.pointer none, .slice none 0 0]⟩ := ⟨⟨_, Try.underlying66, by kernel_rfl⟩, by kernel_rfl⟩
theorem tab67 : RowOk Try.prog ⟨67, .struct [(0, 65), (1, 62)], 2, 32, .agg #[.pointer none, .slice none 0 0]⟩ := ⟨⟨_, Try.underlying67, by kernel_rfl⟩, by kernel_rfl⟩
theorem tab68 : RowOk Try.prog ⟨68, .slice 73, 1, 24, .slice none 0 0⟩ := ⟨Try.underlying68, by kernel_rfl⟩
theorem tab69 : RowOk Try.prog ⟨69, .slice 4, 1, 24, .slice none 0 0⟩ := ⟨Try.underlying69, by kernel_rfl⟩
theorem tab70 : RowOk Try.prog ⟨70, .struct [(0, 68), (1, 68), (2, 69), (3, 4)], 4, 80, .agg #[.slice none 0 0, .slice none 0 0, .slice none 0 0, .bool false]⟩ := ⟨⟨_, Try.underlying70, by kernel_rfl⟩, by kernel_rfl⟩
theorem tab71 : RowOk Try.prog ⟨71, .struct [(0, 68), (1, 68), (2, 69), (3, 4)], 4, 80, .agg #[.slice none 0 0, .slice none 0 0, .slice none 0 0, .bool false]⟩ := ⟨⟨_, Try.underlying71, by kernel_rfl⟩, by kernel_rfl⟩
theorem tab72 : RowOk Try.prog ⟨72, .ptr 71, 1, 8, .pointer none⟩ := ⟨Try.underlying72, by kernel_rfl⟩
theorem tab73 : RowOk Try.prog ⟨73, .ptr 75, 1, 8, .pointer none⟩ := ⟨Try.underlying73, by kernel_rfl⟩
theorem tab74 : RowOk Try.prog ⟨74, .struct [(0, 9), (1, 4)], 2, 24, .agg #[.string ⟨#[]⟩, .bool false]⟩ := ⟨⟨_, Try.underlying74, by kernel_rfl⟩, by kernel_rfl⟩
theorem tab75 : RowOk Try.prog ⟨75, .struct [(0, 9), (1, 4)], 2, 24, .agg #[.string ⟨#[]⟩, .bool false]⟩ := ⟨⟨_, Try.underlying75, by kernel_rfl⟩, by kernel_rfl⟩
theorem tab76 : RowOk Try.prog ⟨76, .iface, 1, 16, .nilIface⟩ := ⟨⟨_, Try.underlying76⟩, by kernel_rfl⟩
theorem tab77 : RowOk Try.prog ⟨77, .iface, 1, 16, .nilIface⟩ := ⟨⟨_, Try.underlying77⟩, by kernel_rfl⟩
theorem tab79 : RowOk Try.prog ⟨79, .fn, 1, 8, .nilFunc⟩ := ⟨⟨_, _, _, Try.underlying79⟩, by kernel_rfl⟩
theorem tab80 : RowOk Try.prog ⟨80, .fn, 1, 8, .nilFunc⟩ := ⟨⟨_, _, _, Try.underlying80⟩, by kernel_rfl⟩
theorem tab81 : RowOk Try.prog ⟨81, .fn, 1, 8, .nilFunc⟩ := ⟨⟨_, _, _, Try.underlying81⟩, by kernel_rfl⟩
theorem tab82 : RowOk Try.prog ⟨82, .ptr 84, 1, 8, .pointer none⟩ := ⟨Try.underlying82, by kernel_rfl⟩
theorem tab83 : RowOk Try.prog ⟨83, .struct [(0, 3), (1, 3), (2, 31), (3, 32), (4, 32)], 5, 72, .agg #[.int .i64 0, .int .i64 0, .int .u64 0, .slice none 0 0, .slice none 0 0]⟩ := ⟨⟨_, Try.underlying83, by kernel_rfl⟩, by kernel_rfl⟩
theorem tab84 : RowOk Try.prog ⟨84, .struct [(0, 3), (1, 3), (2, 31), (3, 32), (4, 32)], 5, 72, .agg #[.int .i64 0, .int .i64 0, .int .u64 0, .slice none 0 0, .slice none 0 0]⟩ := ⟨⟨_, Try.underlying84, by kernel_rfl⟩, by kernel_rfl⟩
theorem tab86 : RowOk Try.prog ⟨86, .fn, 1, 8, .nilFunc⟩ := ⟨⟨_, _, _, Try.underlying86⟩, by kernel_rfl⟩
theorem tab88 : RowOk Try.prog ⟨88, .fn, 1, 8, .nilFunc⟩ := ⟨⟨_, _, _, Try.underlying88⟩, by kernel_rfl⟩
theorem tab89 : RowOk Try.prog ⟨89, .fn, 1, 8, .nilFunc⟩ := ⟨⟨_, _, _, Try.underlying89⟩, by kernel_rfl⟩
theorem tab90 : RowOk Try.prog ⟨90, .fn, 1, 8, .nilFunc⟩ := ⟨⟨_, _, _, Try.underlying90⟩, by kernel_rfl⟩
theorem tab91 : RowOk Try.prog ⟨91, .fn, 1, 8, .nilFunc⟩ := ⟨⟨_, _, _, Try.underlying91⟩, by kernel_rfl⟩
theorem tab92 : RowOk Try.prog ⟨92, .fn, 1, 8, .nilFunc⟩ := ⟨⟨_, _, _, Try.underlying92⟩, by kernel_rfl⟩
theorem tab93 : RowOk Try.prog ⟨93, .fn, 1, 8, .nilFunc⟩ := ⟨⟨_, _, _, Try.underlying93⟩, by kernel_rfl⟩
theorem tab94 : RowOk Try.prog ⟨94, .fn, 1, 8, .nilFunc⟩ := ⟨⟨_, _, _, Try.underlying94⟩, by kernel_rfl⟩
theorem tab96 : RowOk Try.prog ⟨96, .fn, 1, 8, .nilFunc⟩ := ⟨⟨_, _, _, Try.underlying96⟩, by kernel_rfl⟩
theorem tab97 : RowOk Try.prog ⟨97, .fn, 1, 8, .nilFunc⟩ := ⟨⟨_, _, _, Try.underlying97⟩, by kernel_rfl⟩
theorem tab99 : RowOk Try.prog ⟨99, .fn, 1, 8, .nilFunc⟩ := ⟨⟨_, _, _, Try.underlying99⟩, by kernel_rfl⟩
theorem tab100 : RowOk Try.prog ⟨100, .fn, 1, 8, .nilFunc⟩ := ⟨⟨_, _, _, Try.underlying100⟩, by kernel_rfl⟩
theorem tab101 : RowOk Try.prog ⟨101, .fn, 1, 8, .nilFunc⟩ := ⟨⟨_, _, _, Try.underlying101⟩, by kernel_rfl⟩
theorem tab102 : RowOk Try.prog ⟨102, .ptr 5, 1, 8, .pointer none⟩ := ⟨Try.underlying102, by kernel_rfl⟩
theorem tab103 : RowOk Try.prog ⟨103, .fn, 1, 8, .nilFunc⟩ := ⟨⟨_, _, _, Try.underlying103⟩, by kernel_rfl⟩
theorem tab104 : RowOk Try.prog ⟨104, .fn, 1, 8, .nilFunc⟩ := ⟨⟨_, _, _, Try.underlying104⟩, by kernel_rfl⟩
theorem tab106 : RowOk Try.prog ⟨106, .fn, 1, 8, .nilFunc⟩ := ⟨⟨_, _, _, Try.underlying106⟩, by kernel_rfl⟩
theorem tab107 : RowOk Try.prog ⟨107, .fn, 1, 8, .nilFunc⟩ := ⟨⟨_, _, _, Try.underlying107⟩, by kernel_rfl⟩
theorem tab108 : RowOk Try.prog ⟨108, .fn, 1, 8, .nilFunc⟩ := ⟨⟨_, _, _, Try.underlying108⟩, by kernel_rfl⟩
theorem tab109 : RowOk Try.prog ⟨109, .map 3 9, 1, 8, .map none⟩ := ⟨Try.underlying109, by kernel_rfl⟩
theorem tab110 : RowOk Try.prog ⟨110, .fn, 1, 8, .nilFunc⟩ := ⟨⟨_, _, _, Try.underlying110⟩, by kernel_rfl⟩
theorem tab111 : RowOk Try.prog ⟨111, .fn, 1, 8, .nilFunc⟩ := ⟨⟨_, _, _, Try.underlying111⟩, by kernel_rfl⟩
theorem tab112 : RowOk Try.prog ⟨112, .fn, 1, 8, .nilFunc⟩ := ⟨⟨_, _, _, Try.underlying112⟩, by kernel_rfl⟩
theorem tab113 : RowOk Try.prog ⟨113, .slice 3, 1, 24, .slice none 0 0⟩ := ⟨Try.underlying113, by kernel_rfl⟩
theorem tab114 : RowOk Try.prog ⟨114, .fn, 1, 8, .nilFunc⟩ := ⟨⟨_, _, _, Try.underlying114⟩, by kernel_rfl⟩
theorem tab115 : RowOk Try.prog ⟨115, .fn, 1, 8, .nilFunc⟩ := ⟨⟨_, _, _, Try.underlying115⟩, by kernel_rfl⟩
theorem tab116 : RowOk Try.prog ⟨116, .fn, 1, 8, .nilFunc⟩ := ⟨⟨_, _, _, Try.underlying116⟩, by kernel_rfl⟩
theorem tab117 : RowOk Try.prog ⟨117, .fn, 1, 8, .nilFunc⟩ := ⟨⟨_, _, _, Try.underlying117⟩, by kernel_rfl⟩
theorem tab118 : RowOk Try.prog ⟨118, .fn, 1, 8, .nilFunc⟩ := ⟨⟨_, _, _, Try.underlying118⟩, by kernel_rfl⟩
theorem tab119 : RowOk Try.prog ⟨119, .fn, 1, 8, .nilFunc⟩ := ⟨⟨_, _, _, Try.underlying119⟩, by kernel_rfl⟩
theorem tab120 : RowOk Try.prog ⟨120, .fn, 1, 8, .nilFunc⟩ := ⟨⟨_, _, _, Try.underlying120⟩, by kernel_rfl⟩
theorem tab122 : RowOk Try.prog ⟨122, .fn, 1, 8, .nilFunc⟩ := ⟨⟨_, _, _, Try.underlying122⟩, by kernel_rfl⟩
theorem tab123 : RowOk Try.prog ⟨123, .int .u32, 1, 4, .int .u32 0⟩ := ⟨Try.underlying123, by kernel_rfl⟩
theorem tab125 : RowOk Try.prog ⟨125, .fn, 1, 8, .nilFunc⟩ := ⟨⟨_, _, _, Try.underlying125⟩, by kernel_rfl⟩
theorem tab127 : RowOk Try.prog ⟨127, .fn, 1, 8, .nilFunc⟩ := ⟨⟨_, _, _, Try.underlying127⟩, by kernel_rfl⟩
theorem tab128 : RowOk Try.prog ⟨128, .fn, 1, 8, .nilFunc⟩ := ⟨⟨_, _, _, Try.underlying128⟩, by kernel_rfl⟩
theorem tab129 : RowOk Try.prog ⟨129, .fn, 1, 8, .nilFunc⟩ := ⟨⟨_, _, _, Try.underlying129⟩, by kernel_rfl⟩
theorem tab130 : RowOk Try.prog ⟨130, .fn, 1, 8, .nilFunc⟩ := ⟨⟨_, _, _, Try.underlying130⟩, by kernel_rfl⟩
theorem tab131 : RowOk Try.prog ⟨131, .fn, 1, 8, .nilFunc⟩ := ⟨⟨_, _, _, Try.underlying131⟩, by kernel_rfl⟩
theorem tab132 : RowOk Try.prog ⟨132, .fn, 1, 8, .nilFunc⟩ := ⟨⟨_, _, _, Try.underlying132⟩, by kernel_rfl⟩
theorem tab133 : RowOk Try.prog ⟨133, .fn, 1, 8, .nilFunc⟩ := ⟨⟨_, _, _, Try.underlying133⟩, by kernel_rfl⟩
theorem tab134 : RowOk Try.prog ⟨134, .fn, 1, 8, .nilFunc⟩ := ⟨⟨_, _, _, Try.underlying134⟩, by kernel_rfl⟩
theorem tab135 : RowOk Try.prog ⟨135, .fn, 1, 8, .nilFunc⟩ := ⟨⟨_, _, _, Try.underlying135⟩, by kernel_rfl⟩
theorem tab136 : RowOk Try.prog ⟨136, .fn, 1, 8, .nilFunc⟩ := ⟨⟨_, _, _, Try.underlying136⟩, by kernel_rfl⟩
theorem tab137 : RowOk Try.prog ⟨137, .fn, 1, 8, .nilFunc⟩ := ⟨⟨_, _, _, Try.underlying137⟩, by kernel_rfl⟩
theorem tab138 : RowOk Try.prog ⟨138, .fn, 1, 8, .nilFunc⟩ := ⟨⟨_, _, _, Try.underlying138⟩, by kernel_rfl⟩
theorem tab139 : RowOk Try.prog ⟨139, .int .i64, 1, 8, .int .i64 0⟩ := ⟨Try.underlying139, by kernel_rfl⟩
theorem tab141 : RowOk Try.prog ⟨141, .fn, 1, 8, .nilFunc⟩ := ⟨⟨_, _, _, Try.underlying141⟩, by kernel_rfl⟩
theorem tab142 : RowOk Try.prog ⟨142, .fn, 1, 8, .nilFunc⟩ := ⟨⟨_, _, _, Try.underlying142⟩, by kernel_rfl⟩
theorem tab143 : RowOk Try.prog ⟨143, .fn, 1, 8, .nilFunc⟩ := ⟨⟨_, _, _, Try.underlying143⟩, by kernel_rfl⟩
theorem tab144 : RowOk Try.prog ⟨144, .fn, 1, 8, .nilFunc⟩ := ⟨⟨_, _, _, Try.underlying144⟩, by kernel_rfl⟩
theorem tab146 : RowOk Try.prog ⟨146, .fn, 1, 8, .nilFunc⟩ := ⟨⟨_, _, _, Try.underlying146⟩, by kernel_rfl⟩
theorem tab147 : RowOk Try.prog ⟨147, .fn, 1, 8, .nilFunc⟩ := ⟨⟨_, _, _, Try.underlying147⟩, by kernel_rfl⟩
theorem tab148 : RowOk Try.prog ⟨148, .fn, 1, 8, .nilFunc⟩ := ⟨⟨_, _, _, Try.underlying148⟩, by kernel_rfl⟩
theorem tab149 : RowOk Try.prog ⟨149, .int .u64, 1, 8, .int .u64 0⟩ := ⟨Try.underlying149, by kernel_rfl⟩
theorem tab150 : RowOk Try.prog ⟨150, .fn, 1, 8, .nilFunc⟩ := ⟨⟨_, _, _, Try.underlying150⟩, by kernel_rfl⟩
theorem tab151 : RowOk Try.prog ⟨151, .fn, 1, 8, .nilFunc⟩ := ⟨⟨_, _, _, Try.underlying151⟩, by kernel_rfl⟩
theorem tab152 : RowOk Try.prog ⟨152, .fn, 1, 8, .nilFunc⟩ := ⟨⟨_, _, _, Try.underlying152⟩, by kernel_rfl⟩
theorem tab153 : RowOk Try.prog ⟨153, .ptr 3, 1, 8, .pointer none⟩ := ⟨Try.underlying153, by kernel_rfl⟩
theorem tab154 : RowOk Try.prog ⟨154, .fn, 1, 8, .nilFunc⟩ := ⟨⟨_, _, _, Try.underlying154⟩, by kernel_rfl⟩
theorem tab155 : RowOk Try.prog ⟨155, .ptr 149, 1, 8, .pointer none⟩ := ⟨Try.underlying155, by kernel_rfl⟩
theorem tab157 : RowOk Try.prog ⟨157, .fn, 1, 8, .nilFunc⟩ := ⟨⟨_, _, _, Try.underlying157⟩, by kernel_rfl⟩
theorem tab158 : RowOk Try.prog ⟨158, .struct [(0, 17), (1, 17), (2, 17), (3, 9)], 4, 40, .agg #[.pointer none, .pointer none, .pointer none, .string ⟨#[]⟩]⟩ := ⟨⟨_, Try.underlying158, by kernel_rfl⟩, by kernel_rfl⟩
theorem tab159 : RowOk Try.prog ⟨159, .struct [(0, 17), (1, 17), (2, 17), (3, 9)], 4, 40, .agg #[.pointer none, .pointer none, .pointer none, .string ⟨#[]⟩]⟩ := ⟨⟨_, Try.underlying159, by kernel_rfl⟩, by kernel_rfl⟩
theorem tab160 : RowOk Try.prog ⟨160, .array 0 16, 0, 0, .agg #[]⟩ := ⟨Try.underlying160, by kernel_rfl⟩
theorem tab161 : RowOk Try.prog ⟨161, .struct [(0, 160)], 0, 0, .agg #[]⟩ := ⟨⟨_, Try.underlying161, by kernel_rfl⟩, by kernel_rfl⟩
theorem tab162 : RowOk Try.prog ⟨162, .struct [(0, 160)], 0, 0, .agg #[]⟩ := ⟨⟨_, Try.underlying162, by kernel_rfl⟩, by kernel_rfl⟩
theorem tab163 : RowOk Try.prog ⟨163, .int .u8, 1, 1, .int .u8 0⟩ := ⟨Try.underlying163, by kernel_rfl⟩
theorem tab164 : RowOk Try.prog ⟨164, .int .u8, 1, 1, .int .u8 0⟩ := ⟨Try.underlying164, by kernel_rfl⟩
theorem tab165 : RowOk Try.prog ⟨165, .fn, 1, 8, .nilFunc⟩ := ⟨⟨_, _, _, Try.underlying165⟩, by kernel_rfl⟩
theorem tab166 : RowOk Try.prog ⟨166, .int .i32, 1, 4, .int .i32 0⟩ := ⟨Try.underlying166, by kernel_rfl⟩
theorem tab167 : RowOk Try.prog ⟨167, .int .i32, 1, 4, .int .i32 0⟩ := ⟨Try.underlying167, by kernel_rfl⟩
theorem tab168 : RowOk Try.prog ⟨168, .struct [(0, 12), (1, 12), (2, 123), (3, 163), (4, 5), (5, 5), (6, 164), (7, 165), (8, 102), (9, 166), (10, 167)], 11, 48, .agg #[.int .u64 0, .int .u64 0, .int .u32 0, .int .u8 0, .int .u8 0, .int .u8 0, .int .u8 0, .nilFunc, .pointer none, .int .i32 0, .int .i32 0]⟩ := ⟨⟨_, Try.underlying168, by kernel_rfl⟩, by kernel_rfl⟩
theorem tab169 : RowOk Try.prog ⟨169, .struct [(0, 12), (1, 12), (2, 123), (3, 163), (4, 5), (5, 5), (6, 164), (7, 165), (8, 102), (9, 166), (10, 167)], 11, 48, .agg #[.int .u64 0, .int .u64 0, .int .u32 0, .int .u8 0, .int .u8 0, .int .u8 0, .int .u8 0, .nilFunc, .pointer none, .int .i32 0, .int .i32 0]⟩ := ⟨⟨_, Try.underlying169, by kernel_rfl⟩, by kernel_rfl⟩
theorem tabOk : TabOk Try.prog tab :=
  .cons tab1 <|
  .cons tab2 <|
  .cons tab3 <|
  .cons tab4 <|
  .cons tab5 <|
  .cons tab6 <|
  .cons tab7 <|
  .cons tab8 <|
  .cons tab9 <|
  .cons tab10 <|
  .cons tab11 <|
  .cons tab12 <|
  .cons tab13 <|
  .cons tab14 <|
  .cons tab15 <|
  .cons tab16 <|
  .cons tab17 <|
  .cons tab18 <|
  .cons tab19 <|
  .cons tab20 <|
  .cons tab21 <|
  .cons tab22 <|
  .cons tab23 <|
  .cons tab24 <|
  .cons tab25 <|
  .cons tab26 <|
  .cons tab27 <|
  .cons tab28 <|
  .cons tab30 <|
  .cons tab31 <|
  .cons tab32 <|
  .cons tab33 <|
  .cons tab34 <|
  .cons tab35 <|
  .cons tab36 <|
  .cons tab37 <|
  .cons tab38 <|
  .cons tab39 <|
  .cons tab40 <|
  .cons tab41 <|
  .cons tab43 <|
  .cons tab44 <|
  .cons tab45 <|
  .cons tab46 <|
  .cons tab47 <|
  .cons tab48 <|
  .cons tab49 <|
  .cons tab50 <|
  .cons tab51 <|
  .cons tab52 <|
  .cons tab53 <|
  .cons tab54 <|
  .cons tab55 <|
  .cons tab56 <|
  .cons tab57 <|
  .cons tab58 <|
  .cons tab59 <|
  .cons tab60 <|
  .cons tab61 <|
  .cons tab62 <|
  .cons tab63 <|
  .cons tab64 <|
  .cons tab65 <|
  .cons tab66 <|
  .cons tab67 <|
  .cons tab68 <|
  .cons tab69 <|
  .cons tab70 <|
  .cons tab71 <|
  .cons tab72 <|
  .cons tab73 <|
  .cons tab74 <|
  .cons tab75 <|
  .cons tab76 <|
  .cons tab77 <|
  .cons tab79 <|
  .cons tab80 <|
  .cons tab81 <|
  .cons tab82 <|
  .cons tab83 <|
  .cons tab84 <|
  .cons tab86 <|
  .cons tab88 <|
  .cons tab89 <|
  .cons tab90 <|
  .cons tab91 <|
  .cons tab92 <|
  .cons tab93 <|
  .cons tab94 <|
  .cons tab96 <|
  .cons tab97 <|
  .cons tab99 <|
  .cons tab100 <|
  .cons tab101 <|
  .cons tab102 <|
  .cons tab103 <|
  .cons tab104 <|
  .cons tab106 <|
  .cons tab107 <|
  .cons tab108 <|
  .cons tab109 <|
  .cons tab110 <|
  .cons tab111 <|
  .cons tab112 <|
  .cons tab113 <|
  .cons tab114 <|
  .cons tab115 <|
  .cons tab116 <|
  .cons tab117 <|
  .cons tab118 <|
  .cons tab119 <|
  .cons tab120 <|
  .cons tab122 <|
  .cons tab123 <|
  .cons tab125 <|
  .cons tab127 <|
  .cons tab128 <|
  .cons tab129 <|
  .cons tab130 <|
  .cons tab131 <|
  .cons tab132 <|
  .cons tab133 <|
  .cons tab134 <|
  .cons tab135 <|
  .cons tab136 <|
  .cons tab137 <|
  .cons tab138 <|
  .cons tab139 <|
  .cons tab141 <|
  .cons tab142 <|
  .cons tab143 <|
  .cons tab144 <|
  .cons tab146 <|
  .cons tab147 <|
  .cons tab148 <|
  .cons tab149 <|
  .cons tab150 <|
  .cons tab151 <|
  .cons tab152 <|
  .cons tab153 <|
  .cons tab154 <|
  .cons tab155 <|
  .cons tab157 <|
  .cons tab158 <|
  .cons tab159 <|
  .cons tab160 <|
  .cons tab161 <|
  .cons tab162 <|
  .cons tab163 <|
  .cons tab164 <|
  .cons tab165 <|
  .cons tab166 <|
  .cons tab167 <|
  .cons tab168 <|
  .cons tab169 <| .nil
theorem mixed : Try.prog.follows .mixedOrders = true := by kernel_rfl
end Go.Proofs.Ytncnfmpclgkogaa
