/- The table of types of this seat, and that it is right. -/
import Derived.Test.YtelolcagncgfpaaGreatRows
import Derived.Test.YtelolcagncgfpaaGreatEngL
namespace Go.Proofs.YtelolcagncgfpaaGreat
open Go.RowKit
def tab : Tab := [
  ⟨1, .fn, 1, 8, .nilFunc⟩,
  ⟨2, .int .i64, 1, 8, .int .i64 0⟩,
  ⟨3, .int .i64, 1, 8, .int .i64 0⟩,
  ⟨4, .bool, 1, 1, .bool false⟩,
  ⟨5, .int .u8, 1, 1, .int .u8 0⟩,
  ⟨6, .int .u8, 1, 1, .int .u8 0⟩,
  ⟨7, .struct [(0, 2), (1, 3), (2, 4), (3, 6)], 4, 24, .agg #[.int .i64 0, .int .i64 0, .bool false, .int .u8 0]⟩,
  ⟨8, .struct [(0, 2), (1, 3), (2, 4), (3, 6)], 4, 24, .agg #[.int .i64 0, .int .i64 0, .bool false, .int .u8 0]⟩,
  ⟨9, .string, 1, 16, .string ⟨#[]⟩⟩,
  ⟨10, .string, 1, 16, .string ⟨#[]⟩⟩,
  ⟨11, .string, 1, 16, .string ⟨#[]⟩⟩,
  ⟨12, .int .u64, 1, 8, .int .u64 0⟩,
  ⟨13, .struct [(0, 9), (1, 12)], 2, 24, .agg #[.string ⟨#[]⟩, .int .u64 0]⟩,
  ⟨14, .struct [(0, 9), (1, 12)], 2, 24, .agg #[.string ⟨#[]⟩, .int .u64 0]⟩,
  ⟨15, .ptr 166, 1, 8, .pointer none⟩,
  ⟨16, .ptr 169, 1, 8, .pointer none⟩,
  ⟨17, .ptr 176, 1, 8, .pointer none⟩,
  ⟨18, .struct [(0, 17)], 1, 8, .agg #[.pointer none]⟩,
  ⟨19, .struct [(0, 17)], 1, 8, .agg #[.pointer none]⟩,
  ⟨20, .iface, 1, 16, .nilIface⟩,
  ⟨21, .int .i32, 1, 4, .int .i32 0⟩,
  ⟨22, .slice 26, 1, 24, .slice none 0 0⟩,
  ⟨23, .fn, 1, 8, .nilFunc⟩,
  ⟨24, .int .u64, 1, 8, .int .u64 0⟩,
  ⟨25, .struct [(0, 3), (1, 3), (2, 24), (3, 9)], 4, 40, .agg #[.int .i64 0, .int .i64 0, .int .u64 0, .string ⟨#[]⟩]⟩,
  ⟨26, .struct [(0, 3), (1, 3), (2, 24), (3, 9)], 4, 40, .agg #[.int .i64 0, .int .i64 0, .int .u64 0, .string ⟨#[]⟩]⟩,
  ⟨27, .fn, 1, 8, .nilFunc⟩,
  ⟨28, .int .i64, 1, 8, .int .i64 0⟩,
  ⟨30, .fn, 1, 8, .nilFunc⟩,
  ⟨31, .ptr 58, 1, 8, .pointer none⟩,
  ⟨32, .fn, 1, 8, .nilFunc⟩,
  ⟨33, .ptr 63, 1, 8, .pointer none⟩,
  ⟨34, .fn, 1, 8, .nilFunc⟩,
  ⟨35, .fn, 1, 8, .nilFunc⟩,
  ⟨36, .slice 51, 1, 24, .slice none 0 0⟩,
  ⟨38, .fn, 1, 8, .nilFunc⟩,
  ⟨39, .fn, 1, 8, .nilFunc⟩,
  ⟨40, .fn, 1, 8, .nilFunc⟩,
  ⟨41, .fn, 1, 8, .nilFunc⟩,
  ⟨42, .fn, 1, 8, .nilFunc⟩,
  ⟨43, .fn, 1, 8, .nilFunc⟩,
  ⟨44, .fn, 1, 8, .nilFunc⟩,
  ⟨45, .ptr 104, 1, 8, .pointer none⟩,
  ⟨47, .fn, 1, 8, .nilFunc⟩,
  ⟨48, .fn, 1, 8, .nilFunc⟩,
  ⟨49, .fn, 1, 8, .nilFunc⟩,
  ⟨50, .struct [(0, 3), (1, 9)], 2, 24, .agg #[.int .i64 0, .string ⟨#[]⟩]⟩,
  ⟨51, .struct [(0, 3), (1, 9)], 2, 24, .agg #[.int .i64 0, .string ⟨#[]⟩]⟩,
  ⟨52, .fn, 1, 8, .nilFunc⟩,
  ⟨53, .slice 5, 1, 24, .slice none 0 0⟩,
  ⟨54, .fn, 1, 8, .nilFunc⟩,
  ⟨55, .fn, 1, 8, .nilFunc⟩,
  ⟨56, .map 9 65, 1, 8, .map none⟩,
  ⟨57, .struct [(0, 56), (1, 3), (2, 4), (3, 3), (4, 3), (5, 3), (6, 3), (7, 3)], 8, 64, .agg #[.map none, .int .i64 0, .bool false, .int .i64 0, .int .i64 0, .int .i64 0, .int .i64 0, .int .i64 0]⟩,
  ⟨58, .struct [(0, 56), (1, 3), (2, 4), (3, 3), (4, 3), (5, 3), (6, 3), (7, 3)], 8, 64, .agg #[.map none, .int .i64 0, .bool false, .int .i64 0, .int .i64 0, .int .i64 0, .int .i64 0, .int .i64 0]⟩,
  ⟨59, .fn, 1, 8, .nilFunc⟩,
  ⟨60, .fn, 1, 8, .nilFunc⟩,
  ⟨61, .slice 76, 1, 24, .slice none 0 0⟩,
  ⟨62, .struct [(0, 61), (1, 3), (2, 4), (3, 3), (4, 3), (5, 3), (6, 3), (7, 3)], 8, 80, .agg #[.slice none 0 0, .int .i64 0, .bool false, .int .i64 0, .int .i64 0, .int .i64 0, .int .i64 0, .int .i64 0]⟩,
  ⟨63, .struct [(0, 61), (1, 3), (2, 4), (3, 3), (4, 3), (5, 3), (6, 3), (7, 3)], 8, 80, .agg #[.slice none 0 0, .int .i64 0, .bool false, .int .i64 0, .int .i64 0, .int .i64 0, .int .i64 0, .int .i64 0]⟩,
  ⟨64, .fn, 1, 8, .nilFunc⟩,
  ⟨65, .ptr 69, 1, 8, .pointer none⟩,
  ⟨66, .slice 70, 1, 24, .slice none 0 0⟩,
  ⟨67, .slice 4, 1, 24, .slice none 0 0⟩,
  ⟨68, .struct [(0, 66), (1, 66), (2, 67), (3, 4)], 4, 80, .agg #[.slice none 0 0, .slice none 0 0, .slice none 0 0, .bool false]⟩,
  ⟨69, .struct [(0, 66), (1, 66), (2, 67), (3, 4)], 4, 80, .agg #[.slice none 0 0, .slice none 0 0, .slice none 0 0, .bool false]⟩,
  ⟨70, .ptr 73, 1, 8, .pointer none⟩,
  ⟨71, .fn, 1, 8, .nilFunc⟩,
  ⟨72, .struct [(0, 9), (1, 4)], 2, 24, .agg #[.string ⟨#[]⟩, .bool false]⟩,
  ⟨73, .struct [(0, 9), (1, 4)], 2, 24, .agg #[.string ⟨#[]⟩, .bool false]⟩,
  ⟨74, .slice 78, 1, 24, .slice none 0 0⟩,
  ⟨75, .struct [(0, 9), (1, 74), (2, 74), (3, 67), (4, 4)], 5, 96, .agg #[.string ⟨#[]⟩, .slice none 0 0, .slice none 0 0, .slice none 0 0, .bool false]⟩,
  ⟨76, .struct [(0, 9), (1, 74), (2, 74), (3, 67), (4, 4)], 5, 96, .agg #[.string ⟨#[]⟩, .slice none 0 0, .slice none 0 0, .slice none 0 0, .bool false]⟩,
  ⟨77, .struct [(0, 4), (1, 9), (2, 4)], 3, 32, .agg #[.bool false, .string ⟨#[]⟩, .bool false]⟩,
  ⟨78, .struct [(0, 4), (1, 9), (2, 4)], 3, 32, .agg #[.bool false, .string ⟨#[]⟩, .bool false]⟩,
  ⟨79, .ptr 81, 1, 8, .pointer none⟩,
  ⟨80, .struct [(0, 3), (1, 3), (2, 24), (3, 36), (4, 36)], 5, 72, .agg #[.int .i64 0, .int .i64 0, .int .u64 0, .slice none 0 0, .slice none 0 0]⟩,
  ⟨81, .struct [(0, 3), (1, 3), (2, 24), (3, 36), (4, 36)], 5, 72, .agg #[.int .i64 0, .int .i64 0, .int .u64 0, .slice none 0 0, .slice none 0 0]⟩,
  ⟨82, .fn, 1, 8, .nilFunc⟩,
  ⟨84, .fn, 1, 8, .nilFunc⟩,
  ⟨85, .fn, 1, 8, .nilFunc⟩,
  ⟨87, .fn, 1, 8, .nilFunc⟩,
  ⟨88, .fn, 1, 8, .nilFunc⟩,
  ⟨89, .fn, 1, 8, .nilFunc⟩,
  ⟨90, .fn, 1, 8, .nilFunc⟩,
  ⟨91, .fn, 1, 8, .nilFunc⟩,
  ⟨92, .fn, 1, 8, .nilFunc⟩,
  ⟨93, .fn, 1, 8, .nilFunc⟩,
  ⟨94, .ptr 96, 1, 8, .pointer none⟩,
  ⟨95, .struct [(0, 94), (1, 53)], 2, 32, .agg #[.pointer none, .slice none 0 0]⟩,
  ⟨96, .struct [(0, 94), (1, 53)], 2, 32, .agg #[.pointer none, .slice none 0 0]⟩,
  ⟨97, .iface, 1, 16, .nilIface⟩,
  ⟨98, .iface, 1, 16, .nilIface⟩,
  ⟨100, .fn, 1, 8, .nilFunc⟩,
  ⟨101, .fn, 1, 8, .nilFunc⟩,
  ⟨102, .map 3 4, 1, 8, .map none⟩,
  ⟨103, .struct [(0, 31), (1, 3), (2, 24), (3, 102), (4, 3), (5, 3)], 6, 48, .agg #[.pointer none, .int .i64 0, .int .u64 0, .map none, .int .i64 0, .int .i64 0]⟩,
  ⟨104, .struct [(0, 31), (1, 3), (2, 24), (3, 102), (4, 3), (5, 3)], 6, 48, .agg #[.pointer none, .int .i64 0, .int .u64 0, .map none, .int .i64 0, .int .i64 0]⟩,
  ⟨105, .fn, 1, 8, .nilFunc⟩,
  ⟨106, .fn, 1, 8, .nilFunc⟩,
  ⟨107, .int .u64, 1, 8, .int .u64 0⟩,
  ⟨108, .fn, 1, 8, .nilFunc⟩,
  ⟨110, .fn, 1, 8, .nilFunc⟩,
  ⟨111, .fn, 1, 8, .nilFunc⟩,
  ⟨112, .fn, 1, 8, .nilFunc⟩,
  ⟨113, .fn, 1, 8, .nilFunc⟩,
  ⟨115, .fn, 1, 8, .nilFunc⟩,
  ⟨116, .fn, 1, 8, .nilFunc⟩,
  ⟨117, .fn, 1, 8, .nilFunc⟩,
  ⟨118, .fn, 1, 8, .nilFunc⟩,
  ⟨119, .fn, 1, 8, .nilFunc⟩,
  ⟨120, .map 3 9, 1, 8, .map none⟩,
  ⟨121, .fn, 1, 8, .nilFunc⟩,
  ⟨122, .fn, 1, 8, .nilFunc⟩,
  ⟨123, .fn, 1, 8, .nilFunc⟩,
  ⟨124, .slice 3, 1, 24, .slice none 0 0⟩,
  ⟨125, .fn, 1, 8, .nilFunc⟩,
  ⟨126, .fn, 1, 8, .nilFunc⟩,
  ⟨127, .fn, 1, 8, .nilFunc⟩,
  ⟨128, .fn, 1, 8, .nilFunc⟩,
  ⟨129, .ptr 5, 1, 8, .pointer none⟩,
  ⟨130, .int .u32, 1, 4, .int .u32 0⟩,
  ⟨132, .fn, 1, 8, .nilFunc⟩,
  ⟨134, .fn, 1, 8, .nilFunc⟩,
  ⟨135, .fn, 1, 8, .nilFunc⟩,
  ⟨136, .fn, 1, 8, .nilFunc⟩,
  ⟨137, .fn, 1, 8, .nilFunc⟩,
  ⟨138, .fn, 1, 8, .nilFunc⟩,
  ⟨140, .fn, 1, 8, .nilFunc⟩,
  ⟨141, .fn, 1, 8, .nilFunc⟩,
  ⟨142, .fn, 1, 8, .nilFunc⟩,
  ⟨143, .fn, 1, 8, .nilFunc⟩,
  ⟨144, .fn, 1, 8, .nilFunc⟩,
  ⟨145, .fn, 1, 8, .nilFunc⟩,
  ⟨146, .int .i64, 1, 8, .int .i64 0⟩,
  ⟨148, .fn, 1, 8, .nilFunc⟩,
  ⟨149, .fn, 1, 8, .nilFunc⟩,
  ⟨150, .fn, 1, 8, .nilFunc⟩,
  ⟨151, .fn, 1, 8, .nilFunc⟩,
  ⟨153, .fn, 1, 8, .nilFunc⟩,
  ⟨154, .fn, 1, 8, .nilFunc⟩,
  ⟨155, .fn, 1, 8, .nilFunc⟩,
  ⟨156, .int .u64, 1, 8, .int .u64 0⟩,
  ⟨157, .fn, 1, 8, .nilFunc⟩,
  ⟨158, .fn, 1, 8, .nilFunc⟩,
  ⟨159, .fn, 1, 8, .nilFunc⟩,
  ⟨160, .ptr 3, 1, 8, .pointer none⟩,
  ⟨161, .fn, 1, 8, .nilFunc⟩,
  ⟨162, .ptr 156, 1, 8, .pointer none⟩,
  ⟨164, .fn, 1, 8, .nilFunc⟩,
  ⟨165, .struct [(0, 17), (1, 17), (2, 17), (3, 9)], 4, 40, .agg #[.pointer none, .pointer none, .pointer none, .string ⟨#[]⟩]⟩,
  ⟨166, .struct [(0, 17), (1, 17), (2, 17), (3, 9)], 4, 40, .agg #[.pointer none, .pointer none, .pointer none, .string ⟨#[]⟩]⟩,
  ⟨167, .array 0 16, 0, 0, .agg #[]⟩,
  ⟨168, .struct [(0, 167)], 0, 0, .agg #[]⟩,
  ⟨169, .struct [(0, 167)], 0, 0, .agg #[]⟩,
  ⟨170, .int .u8, 1, 1, .int .u8 0⟩,
  ⟨171, .int .u8, 1, 1, .int .u8 0⟩,
  ⟨172, .fn, 1, 8, .nilFunc⟩,
  ⟨173, .int .i32, 1, 4, .int .i32 0⟩,
  ⟨174, .int .i32, 1, 4, .int .i32 0⟩,
  ⟨175, .struct [(0, 12), (1, 12), (2, 130), (3, 170), (4, 5), (5, 5), (6, 171), (7, 172), (8, 129), (9, 173), (10, 174)], 11, 48, .agg #[.int .u64 0, .int .u64 0, .int .u32 0, .int .u8 0, .int .u8 0, .int .u8 0, .int .u8 0, .nilFunc, .pointer none, .int .i32 0, .int .i32 0]⟩,
  ⟨176, .struct [(0, 12), (1, 12), (2, 130), (3, 170), (4, 5), (5, 5), (6, 171), (7, 172), (8, 129), (9, 173), (10, 174)], 11, 48, .agg #[.int .u64 0, .int .u64 0, .int .u32 0, .int .u8 0, .int .u8 0, .int .u8 0, .int .u8 0, .nilFunc, .pointer none, .int .i32 0, .int .i32 0]⟩]
theorem tab1 : RowOk Tryz.prog ⟨1, .fn, 1, 8, .nilFunc⟩ := ⟨⟨_, _, _, Tryz.underlying1⟩, by kernel_rfl⟩
theorem tab2 : RowOk Tryz.prog ⟨2, .int .i64, 1, 8, .int .i64 0⟩ := ⟨Tryz.underlying2, by kernel_rfl⟩
theorem tab3 : RowOk Tryz.prog ⟨3, .int .i64, 1, 8, .int .i64 0⟩ := ⟨Tryz.underlying3, by kernel_rfl⟩
theorem tab4 : RowOk Tryz.prog ⟨4, .bool, 1, 1, .bool false⟩ := ⟨Tryz.underlying4, by kernel_rfl⟩
theorem tab5 : RowOk Tryz.prog ⟨5, .int .u8, 1, 1, .int .u8 0⟩ := ⟨Tryz.underlying5, by kernel_rfl⟩
theorem tab6 : RowOk Tryz.prog ⟨6, .int .u8, 1, 1, .int .u8 0⟩ := ⟨Tryz.underlying6, by kernel_rfl⟩
theorem tab7 : RowOk Tryz.prog ⟨7, .struct [(0, 2), (1, 3), (2, 4), (3, 6)], 4, 24, .agg #[.int .i64 0, .int .i64 0, .bool false, .int .u8 0]⟩ := ⟨⟨_, Tryz.underlying7, by kernel_rfl⟩, by kernel_rfl⟩
theorem tab8 : RowOk Tryz.prog ⟨8, .struct [(0, 2), (1, 3), (2, 4), (3, 6)], 4, 24, .agg #[.int .i64 0, .int .i64 0, .bool false, .int .u8 0]⟩ := ⟨⟨_, Tryz.underlying8, by kernel_rfl⟩, by kernel_rfl⟩
theorem tab9 : RowOk Tryz.prog ⟨9, .string, 1, 16, .string ⟨#[]⟩⟩ := ⟨Tryz.underlying9, by kernel_rfl⟩
theorem tab10 : RowOk Tryz.prog ⟨10, .string, 1, 16, .string ⟨#[]⟩⟩ := ⟨Tryz.underlying10, by kernel_rfl⟩
theorem tab11 : RowOk Tryz.prog ⟨11, .string, 1, 16, .string ⟨#[]⟩⟩ := ⟨Tryz.underlying11, by kernel_rfl⟩
theorem tab12 : RowOk Tryz.prog ⟨12, .int .u64, 1, 8, .int .u64 0⟩ := ⟨Tryz.underlying12, by kernel_rfl⟩
theorem tab13 : RowOk Tryz.prog ⟨13, .struct [(0, 9), (1, 12)], 2, 24, .agg #[.string ⟨#[]⟩, .int .u64 0]⟩ := ⟨⟨_, Tryz.underlying13, by kernel_rfl⟩, by kernel_rfl⟩
theorem tab14 : RowOk Tryz.prog ⟨14, .struct [(0, 9), (1, 12)], 2, 24, .agg #[.string ⟨#[]⟩, .int .u64 0]⟩ := ⟨⟨_, Tryz.underlying14, by kernel_rfl⟩, by kernel_rfl⟩
theorem tab15 : RowOk Tryz.prog ⟨15, .ptr 166, 1, 8, .pointer none⟩ := ⟨Tryz.underlying15, by kernel_rfl⟩
theorem tab16 : RowOk Tryz.prog ⟨16, .ptr 169, 1, 8, .pointer none⟩ := ⟨Tryz.underlying16, by kernel_rfl⟩
theorem tab17 : RowOk Tryz.prog ⟨17, .ptr 176, 1, 8, .pointer none⟩ := ⟨Tryz.underlying17, by kernel_rfl⟩
theorem tab18 : RowOk Tryz.prog ⟨18, .struct [(0, 17)], 1, 8, .agg #[.pointer none]⟩ := ⟨⟨_, Tryz.underlying18, by kernel_rfl⟩, by kernel_rfl⟩
theorem tab19 : RowOk Tryz.prog ⟨19, .struct [(0, 17)], 1, 8, .agg #[.pointer none]⟩ := ⟨⟨_, Tryz.underlying19, by kernel_rfl⟩, by kernel_rfl⟩
theorem tab20 : RowOk Tryz.prog ⟨20, .iface, 1, 16, .nilIface⟩ := ⟨⟨_, Tryz.underlying20⟩, by kernel_rfl⟩
theorem tab21 : RowOk Tryz.prog ⟨21, .int .i32, 1, 4, .int .i32 0⟩ := ⟨Tryz.underlying21, by kernel_rfl⟩
theorem tab22 : RowOk Tryz.prog ⟨22, .slice 26, 1, 24, .slice none 0 0⟩ := ⟨Tryz.underlying22, by kernel_rfl⟩
theorem tab23 : RowOk Tryz.prog ⟨23, .fn, 1, 8, .nilFunc⟩ := ⟨⟨_, _, _, Tryz.underlying23⟩, by kernel_rfl⟩
theorem tab24 : RowOk Tryz.prog ⟨24, .int .u64, 1, 8, .int .u64 0⟩ := ⟨Tryz.underlying24, by kernel_rfl⟩
theorem tab25 : RowOk Tryz.prog ⟨25, .struct [(0, 3), (1, 3), (2, 24), (3, 9)], 4, 40, .agg #[.int .i64 0, .int .i64 0, .int .u64 0, .string ⟨#[]⟩]⟩ := ⟨⟨_, Tryz.underlying25, by kernel_rfl⟩, by kernel_rfl⟩
theorem tab26 : RowOk Tryz.prog ⟨26, .struct [(0, 3), (1, 3), (2, 24), (3, 9)], 4, 40, .agg #[.int .i64 0, .int .i64 0, .int .u64 0, .string ⟨#[]⟩]⟩ := ⟨⟨_, Tryz.underlying26, by kernel_rfl⟩, by kernel_rfl⟩
theorem tab27 : RowOk Tryz.prog ⟨27, .fn, 1, 8, .nilFunc⟩ := ⟨⟨_, _, _, Tryz.underlying27⟩, by kernel_rfl⟩
theorem tab28 : RowOk Tryz.prog ⟨28, .int .i64, 1, 8, .int .i64 0⟩ := ⟨Tryz.underlying28, by kernel_rfl⟩
theorem tab30 : RowOk Tryz.prog ⟨30, .fn, 1, 8, .nilFunc⟩ := ⟨⟨_, _, _, Tryz.underlying30⟩, by kernel_rfl⟩
theorem tab31 : RowOk Tryz.prog ⟨31, .ptr 58, 1, 8, .pointer none⟩ := ⟨Tryz.underlying31, by kernel_rfl⟩
theorem tab32 : RowOk Tryz.prog ⟨32, .fn, 1, 8, .nilFunc⟩ := ⟨⟨_, _, _, Tryz.underlying32⟩, by kernel_rfl⟩
theorem tab33 : RowOk Tryz.prog ⟨33, .ptr 63, 1, 8, .pointer none⟩ := ⟨Tryz.underlying33, by kernel_rfl⟩
theorem tab34 : RowOk Tryz.prog ⟨34, .fn, 1, 8, .nilFunc⟩ := ⟨⟨_, _, _, Tryz.underlying34⟩, by kernel_rfl⟩
theorem tab35 : RowOk Tryz.prog ⟨35, .fn, 1, 8, .nilFunc⟩ := ⟨⟨_, _, _, Tryz.underlying35⟩, by kernel_rfl⟩
theorem tab36 : RowOk Tryz.prog ⟨36, .slice 51, 1, 24, .slice none 0 0⟩ := ⟨Tryz.underlying36, by kernel_rfl⟩
theorem tab38 : RowOk Tryz.prog ⟨38, .fn, 1, 8, .nilFunc⟩ := ⟨⟨_, _, _, Tryz.underlying38⟩, by kernel_rfl⟩
theorem tab39 : RowOk Tryz.prog ⟨39, .fn, 1, 8, .nilFunc⟩ := ⟨⟨_, _, _, Tryz.underlying39⟩, by kernel_rfl⟩
theorem tab40 : RowOk Tryz.prog ⟨40, .fn, 1, 8, .nilFunc⟩ := ⟨⟨_, _, _, Tryz.underlying40⟩, by kernel_rfl⟩
theorem tab41 : RowOk Tryz.prog ⟨41, .fn, 1, 8, .nilFunc⟩ := ⟨⟨_, _, _, Tryz.underlying41⟩, by kernel_rfl⟩
theorem tab42 : RowOk Tryz.prog ⟨42, .fn, 1, 8, .nilFunc⟩ := ⟨⟨_, _, _, Tryz.underlying42⟩, by kernel_rfl⟩
theorem tab43 : RowOk Tryz.prog ⟨43, .fn, 1, 8, .nilFunc⟩ := ⟨⟨_, _, _, Tryz.underlying43⟩, by kernel_rfl⟩
theorem tab44 : RowOk Tryz.prog ⟨44, .fn, 1, 8, .nilFunc⟩ := ⟨⟨_, _, _, Tryz.underlying44⟩, by kernel_rfl⟩
theorem tab45 : RowOk Tryz.prog ⟨45, .ptr 104, 1, 8, .pointer none⟩ := ⟨Tryz.underlying45, by kernel_rfl⟩
theorem tab47 : RowOk Tryz.prog ⟨47, .fn, 1, 8, .nilFunc⟩ := ⟨⟨_, _, _, Tryz.underlying47⟩, by kernel_rfl⟩
theorem tab48 : RowOk Tryz.prog ⟨48, .fn, 1, 8, .nilFunc⟩ := ⟨⟨_, _, _, Tryz.underlying48⟩, by kernel_rfl⟩
theorem tab49 : RowOk Tryz.prog ⟨49, .fn, 1, 8, .nilFunc⟩ := ⟨⟨_, _, _, Tryz.underlying49⟩, by kernel_rfl⟩
theorem tab50 : RowOk Tryz.prog ⟨50, .struct [(0, 3), (1, 9)], 2, 24, .agg #[.int .i64 0, .string ⟨#[]⟩]⟩ := ⟨⟨_, Tryz.underlying50, by kernel_rfl⟩, by kernel_rfl⟩
theorem tab51 : RowOk Tryz.prog ⟨51, .struct [(0, 3), (1, 9)], 2, 24, .agg #[.int .i64 0, .string ⟨#[]⟩]⟩ := ⟨⟨_, Tryz.underlying51, by kernel_rfl⟩, by kernel_rfl⟩
theorem tab52 : RowOk Tryz.prog ⟨52, .fn, 1, 8, .nilFunc⟩ := ⟨⟨_, _, _, Tryz.underlying52⟩, by kernel_rfl⟩
theorem tab53 : RowOk Tryz.prog ⟨53, .slice 5, 1, 24, .slice none 0 0⟩ := ⟨Tryz.underlying53, by kernel_rfl⟩
theorem tab54 : RowOk Tryz.prog ⟨54, .fn, 1, 8, .nilFunc⟩ := ⟨⟨_, _, _, Tryz.underlying54⟩, by kernel_rfl⟩
theorem tab55 : RowOk Tryz.prog ⟨55, .fn, 1, 8, .nilFunc⟩ := ⟨⟨_, _, _, Tryz.underlying55⟩, by kernel_rfl⟩
theorem tab56 : RowOk Tryz.prog ⟨56, .map 9 65, 1, 8, .map none⟩ := ⟨Tryz.underlying56, by kernel_rfl⟩
theorem tab57 : RowOk Tryz.prog ⟨57, .struct [(0, 56), (1, 3), (2, 4), (3, 3), (4, 3), (5, 3), (6, 3), (7, 3)], 8, 64, .agg #[.map none, .int .i64 0, .bool false, .int .i64 0, .int .i64 0, .int .i64 0, .int .i64 0, .int .i64 0]⟩ := ⟨⟨_, Tryz.underlying57, by kernel_rfl⟩, by kernel_rfl⟩
theorem tab58 : RowOk Tryz.prog ⟨58, .struct [(0, 56), (1, 3), (2, 4), (3, 3), (4, 3), (5, 3), (6, 3), (7, 3)], 8, 64, .agg #[.map none, .int .i64 0, .bool false, .int .i64 0, .int .i64 0, .int .i64 0, .int .i64 0, .int .i64 0]⟩ := ⟨⟨_, Tryz.underlying58, by kernel_rfl⟩, by kernel_rfl⟩
theorem tab59 : RowOk Tryz.prog ⟨59, .fn, 1, 8, .nilFunc⟩ := ⟨⟨_, _, _, Tryz.underlying59⟩, by kernel_rfl⟩
theorem tab60 : RowOk Tryz.prog ⟨60, .fn, 1, 8, .nilFunc⟩ := ⟨⟨_, _, _, Tryz.underlying60⟩, by kernel_rfl⟩
theorem tab61 : RowOk Tryz.prog ⟨61, .slice 76, 1, 24, .slice none 0 0⟩ := ⟨Tryz.underlying61, by kernel_rfl⟩
theorem tab62 : RowOk Tryz.prog ⟨62, .struct [(0, 61), (1, 3), (2, 4), (3, 3), (4, 3), (5, 3), (6, 3), (7, 3)], 8, 80, .agg #[.slice none 0 0, .int .i64 0, .bool false, .int .i64 0, .int .i64 0, .int .i64 0, .int .i64 0, .int .i64 0]⟩ := ⟨⟨_, Tryz.underlying62, by kernel_rfl⟩, by kernel_rfl⟩
theorem tab63 : RowOk Tryz.prog ⟨63, .struct [(0, 61), (1, 3), (2, 4), (3, 3), (4, 3), (5, 3), (6, 3), (7, 3)], 8, 80, .agg #[.slice none 0 0, .int .i64 0, .bool false, .int .i64 0, .int .i64 0, .int .i64 0, .int .i64 0, .int .i64 0]⟩ := ⟨⟨_, Tryz.underlying63, by kernel_rfl⟩, by kernel_rfl⟩
theorem tab64 : RowOk Tryz.prog ⟨64, .fn, 1, 8, .nilFunc⟩ := ⟨⟨_, _, _, Tryz.underlying64⟩, by kernel_rfl⟩
theorem tab65 : RowOk Tryz.prog ⟨65, .ptr 69, 1, 8, .pointer none⟩ := ⟨Tryz.underlying65, by kernel_rfl⟩
theorem tab66 : RowOk Tryz.prog ⟨66, .slice 70, 1, 24, .slice none 0 0⟩ := ⟨Tryz.underlying66, by kernel_rfl⟩
theorem tab67 : RowOk Tryz.prog ⟨67, .slice 4, 1, 24, .slice none 0 0⟩ := ⟨Tryz.underlying67, by kernel_rfl⟩
theorem tab68 : RowOk Tryz.prog ⟨68, .struct [(0, 66), (1, 66), (2, 67), (3, 4)], 4, 80, .agg #[.slice none 0 0, .slice none 0 0, .slice none 0 0, .bool false]⟩ := ⟨⟨_, Tryz.underlying68, by kernel_rfl⟩, by kernel_rfl⟩
theorem tab69 : RowOk Tryz.prog ⟨69, .struct [(0, 66), (1, 66), (2, 67), (3, 4)], 4, 80, .agg #[.slice none 0 0, .slice none 0 0, .slice none 0 0, .bool false]⟩ := ⟨⟨_, Tryz.underlying69, by kernel_rfl⟩, by kernel_rfl⟩
theorem tab70 : RowOk Tryz.prog ⟨70, .ptr 73, 1, 8, .pointer none⟩ := ⟨Tryz.underlying70, by kernel_rfl⟩
theorem tab71 : RowOk Tryz.prog ⟨71, .fn, 1, 8, .nilFunc⟩ := ⟨⟨_, _, _, Tryz.underlying71⟩, by kernel_rfl⟩
theorem tab72 : RowOk Tryz.prog ⟨72, .struct [(0, 9), (1, 4)], 2, 24, .agg #[.string ⟨#[]⟩, .bool false]⟩ := ⟨⟨_, Tryz.underlying72, by kernel_rfl⟩, by kernel_rfl⟩
theorem tab73 : RowOk Tryz.prog ⟨73, .struct [(0, 9), (1, 4)], 2, 24, .agg #[.string ⟨#[]⟩, .bool false]⟩ := ⟨⟨_, Tryz.underlying73, by kernel_rfl⟩, by kernel_rfl⟩
theorem tab74 : RowOk Tryz.prog ⟨74, .slice 78, 1, 24, .slice none 0 0⟩ := ⟨Tryz.underlying74, by kernel_rfl⟩
theorem tab75 : RowOk Tryz.prog ⟨75, .struct [(0, 9), (1, 74), (2, 74), (3, 67), (4, 4)], 5, 96, .agg #[.string ⟨#[]⟩, .slice none 0 0, .slice none 0 0, .slice none 0 0, .bool false]⟩ := ⟨⟨_, Tryz.underlying75, by kernel_rfl⟩, by kernel_rfl⟩
theorem tab76 : RowOk Tryz.prog ⟨76, .struct [(0, 9), (1, 74), (2, 74), (3, 67), (4, 4)], 5, 96, .agg #[.string ⟨#[]⟩, .slice none 0 0, .slice none 0 0, .slice none 0 0, .bool false]⟩ := ⟨⟨_, Tryz.underlying76, by kernel_rfl⟩, by kernel_rfl⟩
theorem tab77 : RowOk Tryz.prog ⟨77, .struct [(0, 4), (1, 9), (2, 4)], 3, 32, .agg #[.bool false, .string ⟨#[]⟩, .bool false]⟩ := ⟨⟨_, Tryz.underlying77, by kernel_rfl⟩, by kernel_rfl⟩
theorem tab78 : RowOk Tryz.prog ⟨78, .struct [(0, 4), (1, 9), (2, 4)], 3, 32, .agg #[.bool false, .string ⟨#[]⟩, .bool false]⟩ := ⟨⟨_, Tryz.underlying78, by kernel_rfl⟩, by kernel_rfl⟩
theorem tab79 : RowOk Tryz.prog ⟨79, .ptr 81, 1, 8, .pointer none⟩ := ⟨Tryz.underlying79, by kernel_rfl⟩
theorem tab80 : RowOk Tryz.prog ⟨80, .struct [(0, 3), (1, 3), (2, 24), (3, 36), (4, 36)], 5, 72, .agg #[.int .i64 0, .int .i64 0, .int .u64 0, .slice none 0 0, .slice none 0 0]⟩ := ⟨⟨_, Tryz.underlying80, by kernel_rfl⟩, by kernel_rfl⟩
theorem tab81 : RowOk Tryz.prog ⟨81, .struct [(0, 3), (1, 3), (2, 24), (3, 36), (4, 36)], 5, 72, .agg #[.int .i64 0, .int .i64 0, .int .u64 0, .slice none 0 0, .slice none 0 0]⟩ := ⟨⟨_, Tryz.underlying81, by kernel_rfl⟩, by kernel_rfl⟩
theorem tab82 : RowOk Tryz.prog ⟨82, .fn, 1, 8, .nilFunc⟩ := ⟨⟨_, _, _, Tryz.underlying82⟩, by kernel_rfl⟩
theorem tab84 : RowOk Tryz.prog ⟨84, .fn, 1, 8, .nilFunc⟩ := ⟨⟨_, _, _, Tryz.underlying84⟩, by kernel_rfl⟩
theorem tab85 : RowOk Tryz.prog ⟨85, .fn, 1, 8, .nilFunc⟩ := ⟨⟨_, _, _, Tryz.underlying85⟩, by kernel_rfl⟩
theorem tab87 : RowOk Tryz.prog ⟨87, .fn, 1, 8, .nilFunc⟩ := ⟨⟨_, _, _, Tryz.underlying87⟩, by kernel_rfl⟩
theorem tab88 : RowOk Tryz.prog ⟨88, .fn, 1, 8, .nilFunc⟩ := ⟨⟨_, _, _, Tryz.underlying88⟩, by kernel_rfl⟩
theorem tab89 : RowOk Tryz.prog ⟨89, .fn, 1, 8, .nilFunc⟩ := ⟨⟨_, _, _, Tryz.underlying89⟩, by kernel_rfl⟩
theorem tab90 : RowOk Tryz.prog ⟨90, .fn, 1, 8, .nilFunc⟩ := ⟨⟨_, _, _, Tryz.underlying90⟩, by kernel_rfl⟩
theorem tab91 : RowOk Tryz.prog ⟨91, .fn, 1, 8, .nilFunc⟩ := ⟨⟨_, _, _, Tryz.underlying91⟩, by kernel_rfl⟩
theorem tab92 : RowOk Tryz.prog ⟨92, .fn, 1, 8, .nilFunc⟩ := ⟨⟨_, _, _, Tryz.underlying92⟩, by kernel_rfl⟩
theorem tab93 : RowOk Tryz.prog ⟨93, .fn, 1, 8, .nilFunc⟩ := ⟨⟨_, _, _, Tryz.underlying93⟩, by kernel_rfl⟩
theorem tab94 : RowOk Tryz.prog ⟨94, .ptr 96, 1, 8, .pointer none⟩ := ⟨Tryz.underlying94, by kernel_rfl⟩
theorem tab95 : RowOk Tryz.prog ⟨95, .struct [(0, 94), (1, 53)], 2, 32, .agg #[.pointer none, .slice none 0 0]⟩ := ⟨⟨_, Tryz.underlying95, by kernel_rfl⟩, by kernel_rfl⟩
theorem tab96 : RowOk Tryz.prog ⟨96, .struct [(0, 94), (1, 53)], 2, 32, .agg #[.pointer none, .slice none 0 0]⟩ := ⟨⟨_, Tryz.underlying96, by kernel_rfl⟩, by kernel_rfl⟩
theorem tab97 : RowOk Tryz.prog ⟨97, .iface, 1, 16, .nilIface⟩ := ⟨⟨_, Tryz.underlying97⟩, by kernel_rfl⟩
theorem tab98 : RowOk Tryz.prog ⟨98, .iface, 1, 16, .nilIface⟩ := ⟨⟨_, Tryz.underlying98⟩, by kernel_rfl⟩
theorem tab100 : RowOk Tryz.prog ⟨100, .fn, 1, 8, .nilFunc⟩ := ⟨⟨_, _, _, Tryz.underlying100⟩, by kernel_rfl⟩
theorem tab101 : RowOk Tryz.prog ⟨101, .fn, 1, 8, .nilFunc⟩ := ⟨⟨_, _, _, Tryz.underlying101⟩, by kernel_rfl⟩
theorem tab102 : RowOk Tryz.prog ⟨102, .map 3 4, 1, 8, .map none⟩ := ⟨Tryz.underlying102, by kernel_rfl⟩
theorem tab103 : RowOk Tryz.prog ⟨103, .struct [(0, 31), (1, 3), (2, 24), (3, 102), (4, 3), (5, 3)], 6, 48, .agg #[.pointer none, .int .i64 0, .int .u64 0, .map none, .int .i64 0, .int .i64 0]⟩ := ⟨⟨_, Tryz.underlying103, by kernel_rfl⟩, by kernel_rfl⟩
theorem tab104 : RowOk Tryz.prog ⟨104, .struct [(0, 31), (1, 3), (2, 24), (3, 102), (4, 3), (5, 3)], 6, 48, .agg #[.pointer none, .int .i64 0, .int .u64 0, .map none, .int .i64 0, .int .i64 0]⟩ := ⟨⟨_, Tryz.underlying104, by kernel_rfl⟩, by kernel_rfl⟩
theorem tab105 : RowOk Tryz.prog ⟨105, .fn, 1, 8, .nilFunc⟩ := ⟨⟨_, _, _, Tryz.underlying105⟩, by kernel_rfl⟩
theorem tab106 : RowOk Tryz.prog ⟨106, .fn, 1, 8, .nilFunc⟩ := ⟨⟨_, _, _, Tryz.underlying106⟩, by kernel_rfl⟩
theorem tab107 : RowOk Tryz.prog ⟨107, .int .u64, 1, 8, .int .u64 0⟩ := ⟨Tryz.underlying107, by kernel_rfl⟩
theorem tab108 : RowOk Tryz.prog ⟨108, .fn, 1, 8, .nilFunc⟩ := ⟨⟨_, _, _, Tryz.underlying108⟩, by kernel_rfl⟩
theorem tab110 : RowOk Tryz.prog ⟨110, .fn, 1, 8, .nilFunc⟩ := ⟨⟨_, _, _, Tryz.underlying110⟩, by kernel_rfl⟩
theorem tab111 : RowOk Tryz.prog ⟨111, .fn, 1, 8, .nilFunc⟩ := ⟨⟨_, _, _, Tryz.underlying111⟩, by kernel_rfl⟩
theorem tab112 : RowOk Tryz.prog ⟨112, .fn, 1, 8, .nilFunc⟩ := ⟨⟨_, _, _, Tryz.underlying112⟩, by kernel_rfl⟩
theorem tab113 : RowOk Tryz.prog ⟨113, .fn, 1, 8, .nilFunc⟩ := ⟨⟨_, _, _, Tryz.underlying113⟩, by kernel_rfl⟩
theorem tab115 : RowOk Tryz.prog ⟨115, .fn, 1, 8, .nilFunc⟩ := ⟨⟨_, _, _, Tryz.underlying115⟩, by kernel_rfl⟩
theorem tab116 : RowOk Tryz.prog ⟨116, .fn, 1, 8, .nilFunc⟩ := ⟨⟨_, _, _, Tryz.underlying116⟩, by kernel_rfl⟩
theorem tab117 : RowOk Tryz.prog ⟨117, .fn, 1, 8, .nilFunc⟩ := ⟨⟨_, _, _, Tryz.underlying117⟩, by kernel_rfl⟩
theorem tab118 : RowOk Tryz.prog ⟨118, .fn, 1, 8, .nilFunc⟩ := ⟨⟨_, _, _, Tryz.underlying118⟩, by kernel_rfl⟩
theorem tab119 : RowOk Tryz.prog ⟨119, .fn, 1, 8, .nilFunc⟩ := ⟨⟨_, _, _, Tryz.underlying119⟩, by kernel_rfl⟩
theorem tab120 : RowOk Tryz.prog ⟨120, .map 3 9, 1, 8, .map none⟩ := ⟨Tryz.underlying120, by kernel_rfl⟩
theorem tab121 : RowOk Tryz.prog ⟨121, .fn, 1, 8, .nilFunc⟩ := ⟨⟨_, _, _, Tryz.underlying121⟩, by kernel_rfl⟩
theorem tab122 : RowOk Tryz.prog ⟨122, .fn, 1, 8, .nilFunc⟩ := ⟨⟨_, _, _, Tryz.underlying122⟩, by kernel_rfl⟩
theorem tab123 : RowOk Tryz.prog ⟨123, .fn, 1, 8, .nilFunc⟩ := ⟨⟨_, _, _, Tryz.underlying123⟩, by kernel_rfl⟩
theorem tab124 : RowOk Tryz.prog ⟨124, .slice 3, 1, 24, .slice none 0 0⟩ := ⟨Tryz.underlying124, by kernel_rfl⟩
theorem tab125 : RowOk Tryz.prog ⟨125, .fn, 1, 8, .nilFunc⟩ := ⟨⟨_, _, _, Tryz.underlying125⟩, by kernel_rfl⟩
theorem tab126 : RowOk Tryz.prog ⟨126, .fn, 1, 8, .nilFunc⟩ := ⟨⟨_, _, _, Tryz.underlying126⟩, by kernel_rfl⟩
theorem tab127 : RowOk Tryz.prog ⟨127, .fn, 1, 8, .nilFunc⟩ := ⟨⟨_, _, _, Tryz.underlying127⟩, by kernel_rfl⟩
theorem tab128 : RowOk Tryz.prog ⟨128, .fn, 1, 8, .nilFunc⟩ := ⟨⟨_, _, _, Tryz.underlying128⟩, by kernel_rfl⟩
theorem tab129 : RowOk Tryz.prog ⟨129, .ptr 5, 1, 8, .pointer none⟩ := ⟨Tryz.underlying129, by kernel_rfl⟩
theorem tab130 : RowOk Tryz.prog ⟨130, .int .u32, 1, 4, .int .u32 0⟩ := ⟨Tryz.underlying130, by kernel_rfl⟩
theorem tab132 : RowOk Tryz.prog ⟨132, .fn, 1, 8, .nilFunc⟩ := ⟨⟨_, _, _, Tryz.underlying132⟩, by kernel_rfl⟩
theorem tab134 : RowOk Tryz.prog ⟨134, .fn, 1, 8, .nilFunc⟩ := ⟨⟨_, _, _, Tryz.underlying134⟩, by kernel_rfl⟩
theorem tab135 : RowOk Tryz.prog ⟨135, .fn, 1, 8, .nilFunc⟩ := ⟨⟨_, _, _, Tryz.underlying135⟩, by kernel_rfl⟩
theorem tab136 : RowOk Tryz.prog ⟨136, .fn, 1, 8, .nilFunc⟩ := ⟨⟨_, _, _, Tryz.underlying136⟩, by kernel_rfl⟩
theorem tab137 : RowOk Tryz.prog ⟨137, .fn, 1, 8, .nilFunc⟩ := ⟨⟨_, _, _, Tryz.underlying137⟩, by kernel_rfl⟩
theorem tab138 : RowOk Tryz.prog ⟨138, .fn, 1, 8, .nilFunc⟩ := ⟨⟨_, _, _, Tryz.underlying138⟩, by kernel_rfl⟩
theorem tab140 : RowOk Tryz.prog ⟨140, .fn, 1, 8, .nilFunc⟩ := ⟨⟨_, _, _, Tryz.underlying140⟩, by kernel_rfl⟩
theorem tab141 : RowOk Tryz.prog ⟨141, .fn, 1, 8, .nilFunc⟩ := ⟨⟨_, _, _, Tryz.underlying141⟩, by kernel_rfl⟩
theorem tab142 : RowOk Tryz.prog ⟨142, .fn, 1, 8, .nilFunc⟩ := ⟨⟨_, _, _, Tryz.underlying142⟩, by kernel_rfl⟩
theorem tab143 : RowOk Tryz.prog ⟨143, .fn, 1, 8, .nilFunc⟩ := ⟨⟨_, _, _, Tryz.underlying143⟩, by kernel_rfl⟩
theorem tab144 : RowOk Tryz.prog ⟨144, .fn, 1, 8, .nilFunc⟩ := ⟨⟨_, _, _, Tryz.underlying144⟩, by kernel_rfl⟩
theorem tab145 : RowOk Tryz.prog ⟨145, .fn, 1, 8, .nilFunc⟩ := ⟨⟨_, _, _, Tryz.underlying145⟩, by kernel_rfl⟩
theorem tab146 : RowOk Tryz.prog ⟨146, .int .i64, 1, 8, .int .i64 0⟩ := ⟨Tryz.underlying146, by kernel_rfl⟩
theorem tab148 : RowOk Tryz.prog ⟨148, .fn, 1, 8, .nilFunc⟩ := ⟨⟨_, _, _, Tryz.underlying148⟩, by kernel_rfl⟩
theorem tab149 : RowOk Tryz.prog ⟨149, .fn, 1, 8, .nilFunc⟩ := ⟨⟨_, _, _, Tryz.underlying149⟩, by kernel_rfl⟩
theorem tab150 : RowOk Tryz.prog ⟨150, .fn, 1, 8, .nilFunc⟩ := ⟨⟨_, _, _, Tryz.underlying150⟩, by kernel_rfl⟩
theorem tab151 : RowOk Tryz.prog ⟨151, .fn, 1, 8, .nilFunc⟩ := ⟨⟨_, _, _, Tryz.underlying151⟩, by kernel_rfl⟩
theorem tab153 : RowOk Tryz.prog ⟨153, .fn, 1, 8, .nilFunc⟩ := ⟨⟨_, _, _, Tryz.underlying153⟩, by kernel_rfl⟩
theorem tab154 : RowOk Tryz.prog ⟨154, .fn, 1, 8, .nilFunc⟩ := ⟨⟨_, _, _, Tryz.underlying154⟩, by kernel_rfl⟩
theorem tab155 : RowOk Tryz.prog ⟨155, .fn, 1, 8, .nilFunc⟩ := ⟨⟨_, _, _, Tryz.underlying155⟩, by kernel_rfl⟩
theorem tab156 : RowOk Tryz.prog ⟨156, .int .u64, 1, 8, .int .u64 0⟩ := ⟨Tryz.underlying156, by kernel_rfl⟩
theorem tab157 : RowOk Tryz.prog ⟨157, .fn, 1, 8, .nilFunc⟩ := ⟨⟨_, _, _, Tryz.underlying157⟩, by kernel_rfl⟩
theorem tab158 : RowOk Tryz.prog ⟨158, .fn, 1, 8, .nilFunc⟩ := ⟨⟨_, _, _, Tryz.underlying158⟩, by kernel_rfl⟩
theorem tab159 : RowOk Tryz.prog ⟨159, .fn, 1, 8, .nilFunc⟩ := ⟨⟨_, _, _, Tryz.underlying159⟩, by kernel_rfl⟩
theorem tab160 : RowOk Tryz.prog ⟨160, .ptr 3, 1, 8, .pointer none⟩ := ⟨Tryz.underlying160, by kernel_rfl⟩
theorem tab161 : RowOk Tryz.prog ⟨161, .fn, 1, 8, .nilFunc⟩ := ⟨⟨_, _, _, Tryz.underlying161⟩, by kernel_rfl⟩
theorem tab162 : RowOk Tryz.prog ⟨162, .ptr 156, 1, 8, .pointer none⟩ := ⟨Tryz.underlying162, by kernel_rfl⟩
theorem tab164 : RowOk Tryz.prog ⟨164, .fn, 1, 8, .nilFunc⟩ := ⟨⟨_, _, _, Tryz.underlying164⟩, by kernel_rfl⟩
theorem tab165 : RowOk Tryz.prog ⟨165, .struct [(0, 17), (1, 17), (2, 17), (3, 9)], 4, 40, .agg #[.pointer none, .pointer none, .pointer none, .string ⟨#[]⟩]⟩ := ⟨⟨_, Tryz.underlying165, by kernel_rfl⟩, by kernel_rfl⟩
theorem tab166 : RowOk Tryz.prog ⟨166, .struct [(0, 17), (1, 17), (2, 17), (3, 9)], 4, 40, .agg #[.pointer none, .pointer none, .pointer none, .string ⟨#[]⟩]⟩ := ⟨⟨_, Tryz.underlying166, by kernel_rfl⟩, by kernel_rfl⟩
theorem tab167 : RowOk Tryz.prog ⟨167, .array 0 16, 0, 0, .agg #[]⟩ := ⟨Tryz.underlying167, by kernel_rfl⟩
theorem tab168 : RowOk Tryz.prog ⟨168, .struct [(0, 167)], 0, 0, .agg #[]⟩ := ⟨⟨_, Tryz.underlying168, by kernel_rfl⟩, by kernel_rfl⟩
theorem tab169 : RowOk Tryz.prog ⟨169, .struct [(0, 167)], 0, 0, .agg #[]⟩ := ⟨⟨_, Tryz.underlying169, by kernel_rfl⟩, by kernel_rfl⟩
theorem tab170 : RowOk Tryz.prog ⟨170, .int .u8, 1, 1, .int .u8 0⟩ := ⟨Tryz.underlying170, by kernel_rfl⟩
theorem tab171 : RowOk Tryz.prog ⟨171, .int .u8, 1, 1, .int .u8 0⟩ := ⟨Tryz.underlying171, by kernel_rfl⟩
theorem tab172 : RowOk Tryz.prog ⟨172, .fn, 1, 8, .nilFunc⟩ := ⟨⟨_, _, _, Tryz.underlying172⟩, by kernel_rfl⟩
theorem tab173 : RowOk Tryz.prog ⟨173, .int .i32, 1, 4, .int .i32 0⟩ := ⟨Tryz.underlying173, by kernel_rfl⟩
theorem tab174 : RowOk Tryz.prog ⟨174, .int .i32, 1, 4, .int .i32 0⟩ := ⟨Tryz.underlying174, by kernel_rfl⟩
theorem tab175 : RowOk Tryz.prog ⟨175, .struct [(0, 12), (1, 12), (2, 130), (3, 170), (4, 5), (5, 5), (6, 171), (7, 172), (8, 129), (9, 173), (10, 174)], 11, 48, .agg #[.int .u64 0, .int .u64 0, .int .u32 0, .int .u8 0, .int .u8 0, .int .u8 0, .int .u8 0, .nilFunc, .pointer none, .int .i32 0, .int .i32 0]⟩ := ⟨⟨_, Tryz.underlying175, by kernel_rfl⟩, by kernel_rfl⟩
theorem tab176 : RowOk Tryz.prog ⟨176, .struct [(0, 12), (1, 12), (2, 130), (3, 170), (4, 5), (5, 5), (6, 171), (7, 172), (8, 129), (9, 173), (10, 174)], 11, 48, .agg #[.int .u64 0, .int .u64 0, .int .u32 0, .int .u8 0, .int .u8 0, .int .u8 0, .int .u8 0, .nilFunc, .pointer none, .int .i32 0, .int .i32 0]⟩ := ⟨⟨_, Tryz.underlying176, by kernel_rfl⟩, by kernel_rfl⟩
theorem tabOk : TabOk Tryz.prog tab :=
  .cons tab1 <|
  .cons tab2 <|
  .cons tab3 <|
  .cons tab4 <|
  .cons tab5 <|
  .cons tab6 <|
  .cons tab7 <|
  .cons tab8 <|
  .cons tab9 <|
  .cons tab10 <|
  .cons tab11 <|
  .cons tab12 <|
  .cons tab13 <|
  .cons tab14 <|
  .cons tab15 <|
  .cons tab16 <|
  .cons tab17 <|
  .cons tab18 <|
  .cons tab19 <|
  .cons tab20 <|
  .cons tab21 <|
  .cons tab22 <|
  .cons tab23 <|
  .cons tab24 <|
  .cons tab25 <|
  .cons tab26 <|
  .cons tab27 <|
  .cons tab28 <|
  .cons tab30 <|
  .cons tab31 <|
  .cons tab32 <|
  .cons tab33 <|
  .cons tab34 <|
  .cons tab35 <|
  .cons tab36 <|
  .cons tab38 <|
  .cons tab39 <|
  .cons tab40 <|
  .cons tab41 <|
  .cons tab42 <|
  .cons tab43 <|
  .cons tab44 <|
  .cons tab45 <|
  .cons tab47 <|
  .cons tab48 <|
  .cons tab49 <|
  .cons tab50 <|
  .cons tab51 <|
  .cons tab52 <|
  .cons tab53 <|
  .cons tab54 <|
  .cons tab55 <|
  .cons tab56 <|
  .cons tab57 <|
  .cons tab58 <|
  .cons tab59 <|
  .cons tab60 <|
  .cons tab61 <|
  .cons tab62 <|
  .cons tab63 <|
  .cons tab64 <|
  .cons tab65 <|
  .cons tab66 <|
  .cons tab67 <|
  .cons tab68 <|
  .cons tab69 <|
  .cons tab70 <|
  .cons tab71 <|
  .cons tab72 <|
  .cons tab73 <|
  .cons tab74 <|
  .cons tab75 <|
  .cons tab76 <|
  .cons tab77 <|
  .cons tab78 <|
  .cons tab79 <|
  .cons tab80 <|
  .cons tab81 <|
  .cons tab82 <|
  .cons tab84 <|
  .cons tab85 <|
  .cons tab87 <|
  .cons tab88 <|
  .cons tab89 <|
  .cons tab90 <|
  .cons tab91 <|
  .cons tab92 <|
  .cons tab93 <|
  .cons tab94 <|
  .cons tab95 <|
  .cons tab96 <|
  .cons tab97 <|
  .cons tab98 <|
  .cons tab100 <|
  .cons tab101 <|
  .cons tab102 <|
  .cons tab103 <|
  .cons tab104 <|
  .cons tab105 <|
  .cons tab106 <|
  .cons tab107 <|
  .cons tab108 <|
  .cons tab110 <|
  .cons tab111 <|
  .cons tab112 <|
  .cons tab113 <|
  .cons tab115 <|
  .cons tab116 <|
  .cons tab117 <|
  .cons tab118 <|
  .cons tab119 <|
  .cons tab120 <|
  .cons tab121 <|
  .cons tab122 <|
  .cons tab123 <|
  .cons tab124 <|
  .cons tab125 <|
  .cons tab126 <|
  .cons tab127 <|
  .cons tab128 <|
  .cons tab129 <|
  .cons tab130 <|
  .cons tab132 <|
  .cons tab134 <|
  .cons tab135 <|
  .cons tab136 <|
  .cons tab137 <|
  .cons tab138 <|
  .cons tab140 <|
  .cons tab141 <|
  .cons tab142 <|
  .cons tab143 <|
  .cons tab144 <|
  .cons tab145 <|
  .cons tab146 <|
  .cons tab148 <|
  .cons tab149 <|
  .cons tab150 <|
  .cons tab151 <|
  .cons tab153 <|
  .cons tab154 <|
  .cons tab155 <|
  .cons tab156 <|
  .cons tab157 <|
  .cons tab158 <|
  .cons tab159 <|
  .cons tab160 <|
  .cons tab161 <|
  .cons tab162 <|
  .cons tab164 <|
  .cons tab165 <|
  .cons tab166 <|
  .cons tab167 <|
  .cons tab168 <|
  .cons tab169 <|
  .cons tab170 <|
  .cons tab171 <|
  .cons tab172 <|
  .cons tab173 <|
  .cons tab174 <|
  .cons tab175 <|
  .cons tab176 <| .nil
theorem mixed : Tryz.prog.follows .mixedOrders = true := by kernel_rfl
end Go.Proofs.YtelolcagncgfpaaGreat
