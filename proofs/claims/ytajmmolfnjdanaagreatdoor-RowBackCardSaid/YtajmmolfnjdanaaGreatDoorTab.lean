/- The table of types of this seat, and that it is right. -/
import Derived.Test.YtajmmolfnjdanaaGreatDoorRows
import Derived.Test.YtajmmolfnjdanaaGreatDoorEngL
namespace Go.Proofs.YtajmmolfnjdanaaGreatDoor
open Go.RowKit
def tab : Tab := [
  ⟨1, .fn, 1, 8, .nilFunc⟩,
  ⟨2, .int .i64, 1, 8, .int .i64 0⟩,
  ⟨3, .int .i64, 1, 8, .int .i64 0⟩,
  ⟨4, .bool, 1, 1, .bool false⟩,
  ⟨5, .int .u8, 1, 1, .int .u8 0⟩,
  ⟨6, .int .u8, 1, 1, .int .u8 0⟩,
  ⟨7, .struct [(0, 2), (1, 3), (2, 4), (3, 6)], 4, 24, .agg #[.int .i64 0, .int .i64 0, .bool false, .int .u8 0]⟩,
  ⟨8, .struct [(0, 2), (1, 3), (2, 4), (3, 6)], 4, 24, .agg #[.int .i64 0, .int .i64 0, .bool false, .int .u8 0]⟩,
  ⟨9, .string, 1, 16, .string ⟨#[]⟩⟩,
  ⟨10, .string, 1, 16, .string ⟨#[]⟩⟩,
  ⟨11, .string, 1, 16, .string ⟨#[]⟩⟩,
  ⟨12, .int .u64, 1, 8, .int .u64 0⟩,
  ⟨13, .struct [(0, 9), (1, 12)], 2, 24, .agg #[.string ⟨#[]⟩, .int .u64 0]⟩,
  ⟨14, .struct [(0, 9), (1, 12)], 2, 24, .agg #[.string ⟨#[]⟩, .int .u64 0]⟩,
  ⟨15, .ptr 145, 1, 8, .pointer none⟩,
  ⟨16, .ptr 148, 1, 8, .pointer none⟩,
  ⟨17, .ptr 155, 1, 8, .pointer none⟩,
  ⟨18, .struct [(0, 17)], 1, 8, .agg #[.pointer none]⟩,
  ⟨19, .struct [(0, 17)], 1, 8, .agg #[.pointer none]⟩,
  ⟨20, .iface, 1, 16, .nilIface⟩,
  ⟨21, .int .i32, 1, 4, .int .i32 0⟩,
  ⟨22, .slice 43, 1, 24, .slice none 0 0⟩,
  ⟨23, .slice 43, 1, 24, .slice none 0 0⟩,
  ⟨24, .fn, 1, 8, .nilFunc⟩,
  ⟨25, .fn, 1, 8, .nilFunc⟩,
  ⟨26, .int .i64, 1, 8, .int .i64 0⟩,
  ⟨28, .fn, 1, 8, .nilFunc⟩,
  ⟨29, .fn, 1, 8, .nilFunc⟩,
  ⟨30, .fn, 1, 8, .nilFunc⟩,
  ⟨31, .fn, 1, 8, .nilFunc⟩,
  ⟨32, .fn, 1, 8, .nilFunc⟩,
  ⟨34, .fn, 1, 8, .nilFunc⟩,
  ⟨36, .fn, 1, 8, .nilFunc⟩,
  ⟨37, .fn, 1, 8, .nilFunc⟩,
  ⟨38, .fn, 1, 8, .nilFunc⟩,
  ⟨39, .int .u64, 1, 8, .int .u64 0⟩,
  ⟨40, .fn, 1, 8, .nilFunc⟩,
  ⟨41, .fn, 1, 8, .nilFunc⟩,
  ⟨42, .struct [(0, 3), (1, 3), (2, 9)], 3, 32, .agg #[.int .i64 0, .int .i64 0, .string ⟨#[]⟩]⟩,
  ⟨43, .struct [(0, 3), (1, 3), (2, 9)], 3, 32, .agg #[.int .i64 0, .int .i64 0, .string ⟨#[]⟩]⟩,
  ⟨44, .ptr 47, 1, 8, .pointer none⟩,
  ⟨45, .slice 5, 1, 24, .slice none 0 0⟩,
  ⟨46, .struct [(0, 44), (1, 45)], 2, 32, .agg #[.pointer none, .slice none 0 0]⟩,
  ⟨47, .struct [(0, 44), (1, 45)], 2, 32, .agg #[.pointer none, .slice none 0 0]⟩,
  ⟨48, .iface, 1, 16, .nilIface⟩,
  ⟨49, .iface, 1, 16, .nilIface⟩,
  ⟨51, .fn, 1, 8, .nilFunc⟩,
  ⟨52, .fn, 1, 8, .nilFunc⟩,
  ⟨53, .int .u64, 1, 8, .int .u64 0⟩,
  ⟨54, .fn, 1, 8, .nilFunc⟩,
  ⟨55, .fn, 1, 8, .nilFunc⟩,
  ⟨56, .fn, 1, 8, .nilFunc⟩,
  ⟨57, .fn, 1, 8, .nilFunc⟩,
  ⟨58, .fn, 1, 8, .nilFunc⟩,
  ⟨59, .fn, 1, 8, .nilFunc⟩,
  ⟨60, .fn, 1, 8, .nilFunc⟩,
  ⟨61, .fn, 1, 8, .nilFunc⟩,
  ⟨62, .slice 9, 1, 24, .slice none 0 0⟩,
  ⟨63, .fn, 1, 8, .nilFunc⟩,
  ⟨64, .ptr 66, 1, 8, .pointer none⟩,
  ⟨65, .struct [(0, 9), (1, 26)], 2, 24, .agg #[.string ⟨#[]⟩, .int .i64 0]⟩,
  ⟨66, .struct [(0, 9), (1, 26)], 2, 24, .agg #[.string ⟨#[]⟩, .int .i64 0]⟩,
  ⟨67, .fn, 1, 8, .nilFunc⟩,
  ⟨68, .fn, 1, 8, .nilFunc⟩,
  ⟨69, .fn, 1, 8, .nilFunc⟩,
  ⟨71, .fn, 1, 8, .nilFunc⟩,
  ⟨73, .fn, 1, 8, .nilFunc⟩,
  ⟨74, .fn, 1, 8, .nilFunc⟩,
  ⟨76, .fn, 1, 8, .nilFunc⟩,
  ⟨77, .fn, 1, 8, .nilFunc⟩,
  ⟨78, .ptr 5, 1, 8, .pointer none⟩,
  ⟨79, .fn, 1, 8, .nilFunc⟩,
  ⟨80, .fn, 1, 8, .nilFunc⟩,
  ⟨81, .fn, 1, 8, .nilFunc⟩,
  ⟨82, .fn, 1, 8, .nilFunc⟩,
  ⟨83, .fn, 1, 8, .nilFunc⟩,
  ⟨84, .fn, 1, 8, .nilFunc⟩,
  ⟨85, .fn, 1, 8, .nilFunc⟩,
  ⟨86, .fn, 1, 8, .nilFunc⟩,
  ⟨87, .fn, 1, 8, .nilFunc⟩,
  ⟨88, .fn, 1, 8, .nilFunc⟩,
  ⟨89, .fn, 1, 8, .nilFunc⟩,
  ⟨90, .fn, 1, 8, .nilFunc⟩,
  ⟨91, .fn, 1, 8, .nilFunc⟩,
  ⟨92, .array 4 9, 4, 64, .agg #[.string ⟨#[]⟩, .string ⟨#[]⟩, .string ⟨#[]⟩, .string ⟨#[]⟩]⟩,
  ⟨93, .fn, 1, 8, .nilFunc⟩,
  ⟨95, .fn, 1, 8, .nilFunc⟩,
  ⟨96, .slice 3, 1, 24, .slice none 0 0⟩,
  ⟨97, .fn, 1, 8, .nilFunc⟩,
  ⟨98, .fn, 1, 8, .nilFunc⟩,
  ⟨99, .slice 26, 1, 24, .slice none 0 0⟩,
  ⟨100, .fn, 1, 8, .nilFunc⟩,
  ⟨101, .fn, 1, 8, .nilFunc⟩,
  ⟨102, .fn, 1, 8, .nilFunc⟩,
  ⟨103, .fn, 1, 8, .nilFunc⟩,
  ⟨105, .fn, 1, 8, .nilFunc⟩,
  ⟨106, .fn, 1, 8, .nilFunc⟩,
  ⟨107, .fn, 1, 8, .nilFunc⟩,
  ⟨108, .fn, 1, 8, .nilFunc⟩,
  ⟨109, .fn, 1, 8, .nilFunc⟩,
  ⟨110, .array 24 5, 24, 24, .agg #[.int .u8 0, .int .u8 0, .int .u8 0, .int .u8 0, .int .u8 0, .int .u8 0, .int .u8 0, .int .u8 0, .int .u8 0, .int .u8 0, .int .u8 0, .int .u8 0, .int .u8 0, .int .u8 0, .int .u8 0, .int .u8 0, .int .u8 0, .int .u8 0, .int .u8 0, .int .u8 0, .int .u8 0, .int .u8 0, .int .u8 0, .int .u8 0]⟩,
  ⟨111, .fn, 1, 8, .nilFunc⟩,
  ⟨113, .fn, 1, 8, .nilFunc⟩,
  ⟨114, .int .i64, 1, 8, .int .i64 0⟩,
  ⟨116, .fn, 1, 8, .nilFunc⟩,
  ⟨117, .ptr 134, 1, 8, .pointer none⟩,
  ⟨118, .fn, 1, 8, .nilFunc⟩,
  ⟨119, .fn, 1, 8, .nilFunc⟩,
  ⟨120, .fn, 1, 8, .nilFunc⟩,
  ⟨122, .struct [(0, 5), (1, 5)], 2, 2, .agg #[.int .u8 0, .int .u8 0]⟩,
  ⟨123, .struct [(0, 5), (1, 5)], 2, 2, .agg #[.int .u8 0, .int .u8 0]⟩,
  ⟨124, .array 16 123, 32, 32, .agg #[.int .u8 0, .int .u8 0, .int .u8 0, .int .u8 0, .int .u8 0, .int .u8 0, .int .u8 0, .int .u8 0, .int .u8 0, .int .u8 0, .int .u8 0, .int .u8 0, .int .u8 0, .int .u8 0, .int .u8 0, .int .u8 0, .int .u8 0, .int .u8 0, .int .u8 0, .int .u8 0, .int .u8 0, .int .u8 0, .int .u8 0, .int .u8 0, .int .u8 0, .int .u8 0, .int .u8 0, .int .u8 0, .int .u8 0, .int .u8 0, .int .u8 0, .int .u8 0]⟩,
  ⟨125, .fn, 1, 8, .nilFunc⟩,
  ⟨126, .array 20 53, 20, 160, .agg #[.int .u64 0, .int .u64 0, .int .u64 0, .int .u64 0, .int .u64 0, .int .u64 0, .int .u64 0, .int .u64 0, .int .u64 0, .int .u64 0, .int .u64 0, .int .u64 0, .int .u64 0, .int .u64 0, .int .u64 0, .int .u64 0, .int .u64 0, .int .u64 0, .int .u64 0, .int .u64 0]⟩,
  ⟨127, .int .u32, 1, 4, .int .u32 0⟩,
  ⟨128, .array 65 5, 65, 65, .agg #[.int .u8 0, .int .u8 0, .int .u8 0, .int .u8 0, .int .u8 0, .int .u8 0, .int .u8 0, .int .u8 0, .int .u8 0, .int .u8 0, .int .u8 0, .int .u8 0, .int .u8 0, .int .u8 0, .int .u8 0, .int .u8 0, .int .u8 0, .int .u8 0, .int .u8 0, .int .u8 0, .int .u8 0, .int .u8 0, .int .u8 0, .int .u8 0, .int .u8 0, .int .u8 0, .int .u8 0, .int .u8 0, .int .u8 0, .int .u8 0, .int .u8 0, .int .u8 0, .int .u8 0, .int .u8 0, .int .u8 0, .int .u8 0, .int .u8 0, .int .u8 0, .int .u8 0, .int .u8 0, .int .u8 0, .int .u8 0, .int .u8 0, .int .u8 0, .int .u8 0, .int .u8 0, .int .u8 0, .int .u8 0, .int .u8 0, .int .u8 0, .int .u8 0, .int .u8 0, .int .u8 0, .int .u8 0, .int .u8 0, .int .u8 0, .int .u8 0, .int .u8 0, .int .u8 0, .int .u8 0, .int .u8 0, .int .u8 0, .int .u8 0, .int .u8 0, .int .u8 0]⟩,
  ⟨129, .fn, 1, 8, .nilFunc⟩,
  ⟨131, .fn, 1, 8, .nilFunc⟩,
  ⟨132, .fn, 1, 8, .nilFunc⟩,
  ⟨133, .struct [(0, 9), (1, 9), (2, 49)], 3, 48, .agg #[.string ⟨#[]⟩, .string ⟨#[]⟩, .nilIface]⟩,
  ⟨134, .struct [(0, 9), (1, 9), (2, 49)], 3, 48, .agg #[.string ⟨#[]⟩, .string ⟨#[]⟩, .nilIface]⟩,
  ⟨135, .fn, 1, 8, .nilFunc⟩,
  ⟨137, .fn, 1, 8, .nilFunc⟩,
  ⟨138, .fn, 1, 8, .nilFunc⟩,
  ⟨139, .ptr 141, 1, 8, .pointer none⟩,
  ⟨140, .struct [(0, 9)], 1, 16, .agg #[.string ⟨#[]⟩]⟩,
  ⟨141, .struct [(0, 9)], 1, 16, .agg #[.string ⟨#[]⟩]⟩,
  ⟨142, .array 32 5, 32, 32, .agg #[.int .u8 0, .int .u8 0, .int .u8 0, .int .u8 0, .int .u8 0, .int .u8 0, .int .u8 0, .int .u8 0, .int .u8 0, .int .u8 0, .int .u8 0, .int .u8 0, .int .u8 0, .int .u8 0, .int .u8 0, .int .u8 0, .int .u8 0, .int .u8 0, .int .u8 0, .int .u8 0, .int .u8 0, .int .u8 0, .int .u8 0, .int .u8 0, .int .u8 0, .int .u8 0, .int .u8 0, .int .u8 0, .int .u8 0, .int .u8 0, .int .u8 0, .int .u8 0]⟩,
  ⟨143, .array 64 5, 64, 64, .agg #[.int .u8 0, .int .u8 0, .int .u8 0, .int .u8 0, .int .u8 0, .int .u8 0, .int .u8 0, .int .u8 0, .int .u8 0, .int .u8 0, .int .u8 0, .int .u8 0, .int .u8 0, .int .u8 0, .int .u8 0, .int .u8 0, .int .u8 0, .int .u8 0, .int .u8 0, .int .u8 0, .int .u8 0, .int .u8 0, .int .u8 0, .int .u8 0, .int .u8 0, .int .u8 0, .int .u8 0, .int .u8 0, .int .u8 0, .int .u8 0, .int .u8 0, .int .u8 0, .int .u8 0, .int .u8 0, .int .u8 0, .int .u8 0, .int .u8 0, .int .u8 0, .int .u8 0, .int .u8 0, .int .u8 0, .int .u8 0, .int .u8 0, .int .u8 0, .int .u8 0, .int .u8 0, .int .u8 0, .int .u8 0, .int .u8 0, .int .u8 0, .int .u8 0, .int .u8 0, .int .u8 0, .int .u8 0, .int .u8 0, .int .u8 0, .int .u8 0, .int .u8 0, .int .u8 0, .int .u8 0, .int .u8 0, .int .u8 0, .int .u8 0, .int .u8 0]⟩,
  ⟨144, .struct [(0, 17), (1, 17), (2, 17), (3, 9)], 4, 40, .agg #[.pointer none, .pointer none, .pointer none, .string ⟨#[]⟩]⟩,
  ⟨145, .struct [(0, 17), (1, 17), (2, 17), (3, 9)], 4, 40, .agg #[.pointer none, .pointer none, .pointer none, .string ⟨#[]⟩]⟩,
  ⟨146, .array 0 16, 0, 0, .agg #[]⟩,
  ⟨147, .struct [(0, 146)], 0, 0, .agg #[]⟩,
  ⟨148, .struct [(0, 146)], 0, 0, .agg #[]⟩,
  ⟨149, .int .u8, 1, 1, .int .u8 0⟩,
  ⟨150, .int .u8, 1, 1, .int .u8 0⟩,
  ⟨151, .fn, 1, 8, .nilFunc⟩,
  ⟨152, .int .i32, 1, 4, .int .i32 0⟩,
  ⟨153, .int .i32, 1, 4, .int .i32 0⟩,
  ⟨154, .struct [(0, 12), (1, 12), (2, 127), (3, 149), (4, 5), (5, 5), (6, 150), (7, 151), (8, 78), (9, 152), (10, 153)], 11, 48, .agg #[.int .u64 0, .int .u64 0, .int .u32 0, .int .u8 0, .int .u8 0, .int .u8 0, .int .u8 0, .nilFunc, .pointer none, .int .i32 0, .int .i32 0]⟩,
  ⟨155, .struct [(0, 12), (1, 12), (2, 127), (3, 149), (4, 5), (5, 5), (6, 150), (7, 151), (8, 78), (9, 152), (10, 153)], 11, 48, .agg #[.int .u64 0, .int .u64 0, .int .u32 0, .int .u8 0, .int .u8 0, .int .u8 0, .int .u8 0, .nilFunc, .pointer none, .int .i32 0, .int .i32 0]⟩]
theorem tab1 : RowOk Tryz.prog ⟨1, .fn, 1, 8, .nilFunc⟩ := ⟨⟨_, _, _, Tryz.underlying1⟩, by kernel_rfl⟩
theorem tab2 : RowOk Tryz.prog ⟨2, .int .i64, 1, 8, .int .i64 0⟩ := ⟨Tryz.underlying2, by kernel_rfl⟩
theorem tab3 : RowOk Tryz.prog ⟨3, .int .i64, 1, 8, .int .i64 0⟩ := ⟨Tryz.underlying3, by kernel_rfl⟩
theorem tab4 : RowOk Tryz.prog ⟨4, .bool, 1, 1, .bool false⟩ := ⟨Tryz.underlying4, by kernel_rfl⟩
theorem tab5 : RowOk Tryz.prog ⟨5, .int .u8, 1, 1, .int .u8 0⟩ := ⟨Tryz.underlying5, by kernel_rfl⟩
theorem tab6 : RowOk Tryz.prog ⟨6, .int .u8, 1, 1, .int .u8 0⟩ := ⟨Tryz.underlying6, by kernel_rfl⟩
theorem tab7 : RowOk Tryz.prog ⟨7, .struct [(0, 2), (1, 3), (2, 4), (3, 6)], 4, 24, .agg #[.int .i64 0, .int .i64 0, .bool false, .int .u8 0]⟩ := ⟨⟨_, Tryz.underlying7, by kernel_rfl⟩, by kernel_rfl⟩
theorem tab8 : RowOk Tryz.prog ⟨8, .struct [(0, 2), (1, 3), (2, 4), (3, 6)], 4, 24, .agg #[.int .i64 0, .int .i64 0, .bool false, .int .u8 0]⟩ := ⟨⟨_, Tryz.underlying8, by kernel_rfl⟩, by kernel_rfl⟩
theorem tab9 : RowOk Tryz.prog ⟨9, .string, 1, 16, .string ⟨#[]⟩⟩ := ⟨Tryz.underlying9, by kernel_rfl⟩
theorem tab10 : RowOk Tryz.prog ⟨10, .string, 1, 16, .string ⟨#[]⟩⟩ := ⟨Tryz.underlying10, by kernel_rfl⟩
theorem tab11 : RowOk Tryz.prog ⟨11, .string, 1, 16, .string ⟨#[]⟩⟩ := ⟨Tryz.underlying11, by kernel_rfl⟩
theorem tab12 : RowOk Tryz.prog ⟨12, .int .u64, 1, 8, .int .u64 0⟩ := ⟨Tryz.underlying12, by kernel_rfl⟩
theorem tab13 : RowOk Tryz.prog ⟨13, .struct [(0, 9), (1, 12)], 2, 24, .agg #[.string ⟨#[]⟩, .int .u64 0]⟩ := ⟨⟨_, Tryz.underlying13, by kernel_rfl⟩, by kernel_rfl⟩
theorem tab14 : RowOk Tryz.prog ⟨14, .struct [(0, 9), (1, 12)], 2, 24, .agg #[.string ⟨#[]⟩, .int .u64 0]⟩ := ⟨⟨_, Tryz.underlying14, by kernel_rfl⟩, by kernel_rfl⟩
theorem tab15 : RowOk Tryz.prog ⟨15, .ptr 145, 1, 8, .pointer none⟩ := ⟨Tryz.underlying15, by kernel_rfl⟩
theorem tab16 : RowOk Tryz.prog ⟨16, .ptr 148, 1, 8, .pointer none⟩ := ⟨Tryz.underlying16, by kernel_rfl⟩
theorem tab17 : RowOk Tryz.prog ⟨17, .ptr 155, 1, 8, .pointer none⟩ := ⟨Tryz.underlying17, by kernel_rfl⟩
theorem tab18 : RowOk Tryz.prog ⟨18, .struct [(0, 17)], 1, 8, .agg #[.pointer none]⟩ := ⟨⟨_, Tryz.underlying18, by kernel_rfl⟩, by kernel_rfl⟩
theorem tab19 : RowOk Tryz.prog ⟨19, .struct [(0, 17)], 1, 8, .agg #[.pointer none]⟩ := ⟨⟨_, Tryz.underlying19, by kernel_rfl⟩, by kernel_rfl⟩
theorem tab20 : RowOk Tryz.prog ⟨20, .iface, 1, 16, .nilIface⟩ := ⟨⟨_, Tryz.underlying20⟩, by kernel_rfl⟩
theorem tab21 : RowOk Tryz.prog ⟨21, .int .i32, 1, 4, .int .i32 0⟩ := ⟨Tryz.underlying21, by kernel_rfl⟩
theorem tab22 : RowOk Tryz.prog ⟨22, .slice 43, 1, 24, .slice none 0 0⟩ := ⟨Tryz.underlying22, by kernel_rfl⟩
theorem tab23 : RowOk Tryz.prog ⟨23, .slice 43, 1, 24, .slice none 0 0⟩ := ⟨Tryz.underlying23, by kernel_rfl⟩
theorem tab24 : RowOk Tryz.prog ⟨24, .fn, 1, 8, .nilFunc⟩ := ⟨⟨_, _, _, Tryz.underlying24⟩, by kernel_rfl⟩
theorem tab25 : RowOk Tryz.prog ⟨25, .fn, 1, 8, .nilFunc⟩ := ⟨⟨_, _, _, Tryz.underlying25⟩, by kernel_rfl⟩
theorem tab26 : RowOk Tryz.prog ⟨26, .int .i64, 1, 8, .int .i64 0⟩ := ⟨Tryz.underlying26, by kernel_rfl⟩
theorem tab28 : RowOk Tryz.prog ⟨28, .fn, 1, 8, .nilFunc⟩ := ⟨⟨_, _, _, Tryz.underlying28⟩, by kernel_rfl⟩
theorem tab29 : RowOk Tryz.prog ⟨29, .fn, 1, 8, .nilFunc⟩ := ⟨⟨_, _, _, Tryz.underlying29⟩, by kernel_rfl⟩
theorem tab30 : RowOk Tryz.prog ⟨30, .fn, 1, 8, .nilFunc⟩ := ⟨⟨_, _, _, Tryz.underlying30⟩, by kernel_rfl⟩
theorem tab31 : RowOk Tryz.prog ⟨31, .fn, 1, 8, .nilFunc⟩ := ⟨⟨_, _, _, Tryz.underlying31⟩, by kernel_rfl⟩
theorem tab32 : RowOk Tryz.prog ⟨32, .fn, 1, 8, .nilFunc⟩ := ⟨⟨_, _, _, Tryz.underlying32⟩, by kernel_rfl⟩
theorem tab34 : RowOk Tryz.prog ⟨34, .fn, 1, 8, .nilFunc⟩ := ⟨⟨_, _, _, Tryz.underlying34⟩, by kernel_rfl⟩
theorem tab36 : RowOk Tryz.prog ⟨36, .fn, 1, 8, .nilFunc⟩ := ⟨⟨_, _, _, Tryz.underlying36⟩, by kernel_rfl⟩
theorem tab37 : RowOk Tryz.prog ⟨37, .fn, 1, 8, .nilFunc⟩ := ⟨⟨_, _, _, Tryz.underlying37⟩, by kernel_rfl⟩
theorem tab38 : RowOk Tryz.prog ⟨38, .fn, 1, 8, .nilFunc⟩ := ⟨⟨_, _, _, Tryz.underlying38⟩, by kernel_rfl⟩
theorem tab39 : RowOk Tryz.prog ⟨39, .int .u64, 1, 8, .int .u64 0⟩ := ⟨Tryz.underlying39, by kernel_rfl⟩
theorem tab40 : RowOk Tryz.prog ⟨40, .fn, 1, 8, .nilFunc⟩ := ⟨⟨_, _, _, Tryz.underlying40⟩, by kernel_rfl⟩
theorem tab41 : RowOk Tryz.prog ⟨41, .fn, 1, 8, .nilFunc⟩ := ⟨⟨_, _, _, Tryz.underlying41⟩, by kernel_rfl⟩
theorem tab42 : RowOk Tryz.prog ⟨42, .struct [(0, 3), (1, 3), (2, 9)], 3, 32, .agg #[.int .i64 0, .int .i64 0, .string ⟨#[]⟩]⟩ := ⟨⟨_, Tryz.underlying42, by kernel_rfl⟩, by kernel_rfl⟩
theorem tab43 : RowOk Tryz.prog ⟨43, .struct [(0, 3), (1, 3), (2, 9)], 3, 32, .agg #[.int .i64 0, .int .i64 0, .string ⟨#[]⟩]⟩ := ⟨⟨_, Tryz.underlying43, by kernel_rfl⟩, by kernel_rfl⟩
theorem tab44 : RowOk Tryz.prog ⟨44, .ptr 47, 1, 8, .pointer none⟩ := ⟨Tryz.underlying44, by kernel_rfl⟩
theorem tab45 : RowOk Tryz.prog ⟨45, .slice 5, 1, 24, .slice none 0 0⟩ := ⟨Tryz.underlying45, by kernel_rfl⟩
theorem tab46 : RowOk Tryz.prog ⟨46, .struct [(0, 44), (1, 45)], 2, 32, .agg #[.pointer none, .slice none 0 0]⟩ := ⟨⟨_, Tryz.underlying46, by kernel_rfl⟩, by kernel_rfl⟩
theorem tab47 : RowOk Tryz.prog ⟨47, .struct [(0, 44), (1, 45)], 2, 32, .agg #[.pointer none, .slice none 0 0]⟩ := ⟨⟨_, Tryz.underlying47, by kernel_rfl⟩, by kernel_rfl⟩
theorem tab48 : RowOk Tryz.prog ⟨48, .iface, 1, 16, .nilIface⟩ := ⟨⟨_, Tryz.underlying48⟩, by kernel_rfl⟩
theorem tab49 : RowOk Tryz.prog ⟨49, .iface, 1, 16, .nilIface⟩ := ⟨⟨_, Tryz.underlying49⟩, by kernel_rfl⟩
theorem tab51 : RowOk Tryz.prog ⟨51, .fn, 1, 8, .nilFunc⟩ := ⟨⟨_, _, _, Tryz.underlying51⟩, by kernel_rfl⟩
theorem tab52 : RowOk Tryz.prog ⟨52, .fn, 1, 8, .nilFunc⟩ := ⟨⟨_, _, _, Tryz.underlying52⟩, by kernel_rfl⟩
theorem tab53 : RowOk Tryz.prog ⟨53, .int .u64, 1, 8, .int .u64 0⟩ := ⟨Tryz.underlying53, by kernel_rfl⟩
theorem tab54 : RowOk Tryz.prog ⟨54, .fn, 1, 8, .nilFunc⟩ := ⟨⟨_, _, _, Tryz.underlying54⟩, by kernel_rfl⟩
theorem tab55 : RowOk Tryz.prog ⟨55, .fn, 1, 8, .nilFunc⟩ := ⟨⟨_, _, _, Tryz.underlying55⟩, by kernel_rfl⟩
theorem tab56 : RowOk Tryz.prog ⟨56, .fn, 1, 8, .nilFunc⟩ := ⟨⟨_, _, _, Tryz.underlying56⟩, by kernel_rfl⟩
theorem tab57 : RowOk Tryz.prog ⟨57, .fn, 1, 8, .nilFunc⟩ := ⟨⟨_, _, _, Tryz.underlying57⟩, by kernel_rfl⟩
theorem tab58 : RowOk Tryz.prog ⟨58, .fn, 1, 8, .nilFunc⟩ := ⟨⟨_, _, _, Tryz.underlying58⟩, by kernel_rfl⟩
theorem tab59 : RowOk Tryz.prog ⟨59, .fn, 1, 8, .nilFunc⟩ := ⟨⟨_, _, _, Tryz.underlying59⟩, by kernel_rfl⟩
theorem tab60 : RowOk Tryz.prog ⟨60, .fn, 1, 8, .nilFunc⟩ := ⟨⟨_, _, _, Tryz.underlying60⟩, by kernel_rfl⟩
theorem tab61 : RowOk Tryz.prog ⟨61, .fn, 1, 8, .nilFunc⟩ := ⟨⟨_, _, _, Tryz.underlying61⟩, by kernel_rfl⟩
theorem tab62 : RowOk Tryz.prog ⟨62, .slice 9, 1, 24, .slice none 0 0⟩ := ⟨Tryz.underlying62, by kernel_rfl⟩
theorem tab63 : RowOk Tryz.prog ⟨63, .fn, 1, 8, .nilFunc⟩ := ⟨⟨_, _, _, Tryz.underlying63⟩, by kernel_rfl⟩
theorem tab64 : RowOk Tryz.prog ⟨64, .ptr 66, 1, 8, .pointer none⟩ := ⟨Tryz.underlying64, by kernel_rfl⟩
theorem tab65 : RowOk Tryz.prog ⟨65, .struct [(0, 9), (1, 26)], 2, 24, .agg #[.string ⟨#[]⟩, .int .i64 0]⟩ := ⟨⟨_, Tryz.underlying65, by kernel_rfl⟩, by kernel_rfl⟩
theorem tab66 : RowOk Tryz.prog ⟨66, .struct [(0, 9), (1, 26)], 2, 24, .agg #[.string ⟨#[]⟩, .int .i64 0]⟩ := ⟨⟨_, Tryz.underlying66, by kernel_rfl⟩, by kernel_rfl⟩
theorem tab67 : RowOk Tryz.prog ⟨67, .fn, 1, 8, .nilFunc⟩ := ⟨⟨_, _, _, Tryz.underlying67⟩, by kernel_rfl⟩
theorem tab68 : RowOk Tryz.prog ⟨68, .fn, 1, 8, .nilFunc⟩ := ⟨⟨_, _, _, Tryz.underlying68⟩, by kernel_rfl⟩
theorem tab69 : RowOk Tryz.prog ⟨69, .fn, 1, 8, .nilFunc⟩ := ⟨⟨_, _, _, Tryz.underlying69⟩, by kernel_rfl⟩
theorem tab71 : RowOk Tryz.prog ⟨71, .fn, 1, 8, .nilFunc⟩ := ⟨⟨_, _, _, Tryz.underlying71⟩, by kernel_rfl⟩
theorem tab73 : RowOk Tryz.prog ⟨73, .fn, 1, 8, .nilFunc⟩ := ⟨⟨_, _, _, Tryz.underlying73⟩, by kernel_rfl⟩
theorem tab74 : RowOk Tryz.prog ⟨74, .fn, 1, 8, .nilFunc⟩ := ⟨⟨_, _, _, Tryz.underlying74⟩, by kernel_rfl⟩
theorem tab76 : RowOk Tryz.prog ⟨76, .fn, 1, 8, .nilFunc⟩ := ⟨⟨_, _, _, Tryz.underlying76⟩, by kernel_rfl⟩
theorem tab77 : RowOk Tryz.prog ⟨77, .fn, 1, 8, .nilFunc⟩ := ⟨⟨_, _, _, Tryz.underlying77⟩, by kernel_rfl⟩
theorem tab78 : RowOk Tryz.prog ⟨78, .ptr 5, 1, 8, .pointer none⟩ := ⟨Tryz.underlying78, by kernel_rfl⟩
theorem tab79 : RowOk Tryz.prog ⟨79, .fn, 1, 8, .nilFunc⟩ := ⟨⟨_, _, _, Tryz.underlying79⟩, by kernel_rfl⟩
theorem tab80 : RowOk Tryz.prog ⟨80, .fn, 1, 8, .nilFunc⟩ := ⟨⟨_, _, _, Tryz.underlying80⟩, by kernel_rfl⟩
theorem tab81 : RowOk Tryz.prog ⟨81, .fn, 1, 8, .nilFunc⟩ := ⟨⟨_, _, _, Tryz.underlying81⟩, by kernel_rfl⟩
theorem tab82 : RowOk Tryz.prog ⟨82, .fn, 1, 8, .nilFunc⟩ := ⟨⟨_, _, _, Tryz.underlying82⟩, by kernel_rfl⟩
theorem tab83 : RowOk Tryz.prog ⟨83, .fn, 1, 8, .nilFunc⟩ := ⟨⟨_, _, _, Tryz.underlying83⟩, by kernel_rfl⟩
theorem tab84 : RowOk Tryz.prog ⟨84, .fn, 1, 8, .nilFunc⟩ := ⟨⟨_, _, _, Tryz.underlying84⟩, by kernel_rfl⟩
theorem tab85 : RowOk Tryz.prog ⟨85, .fn, 1, 8, .nilFunc⟩ := ⟨⟨_, _, _, Tryz.underlying85⟩, by kernel_rfl⟩
theorem tab86 : RowOk Tryz.prog ⟨86, .fn, 1, 8, .nilFunc⟩ := ⟨⟨_, _, _, Tryz.underlying86⟩, by kernel_rfl⟩
theorem tab87 : RowOk Tryz.prog ⟨87, .fn, 1, 8, .nilFunc⟩ := ⟨⟨_, _, _, Tryz.underlying87⟩, by kernel_rfl⟩
theorem tab88 : RowOk Tryz.prog ⟨88, .fn, 1, 8, .nilFunc⟩ := ⟨⟨_, _, _, Tryz.underlying88⟩, by kernel_rfl⟩
theorem tab89 : RowOk Tryz.prog ⟨89, .fn, 1, 8, .nilFunc⟩ := ⟨⟨_, _, _, Tryz.underlying89⟩, by kernel_rfl⟩
theorem tab90 : RowOk Tryz.prog ⟨90, .fn, 1, 8, .nilFunc⟩ := ⟨⟨_, _, _, Tryz.underlying90⟩, by kernel_rfl⟩
theorem tab91 : RowOk Tryz.prog ⟨91, .fn, 1, 8, .nilFunc⟩ := ⟨⟨_, _, _, Tryz.underlying91⟩, by kernel_rfl⟩
theorem tab92 : RowOk Tryz.prog ⟨92, .array 4 9, 4, 64, .agg #[.string ⟨#[]⟩, .string ⟨#[]⟩, .string ⟨#[]⟩, .string ⟨#[]⟩]⟩ := ⟨Tryz.underlying92, by kernel_rfl⟩
theorem tab93 : RowOk Tryz.prog ⟨93, .fn, 1, 8, .nilFunc⟩ := ⟨⟨_, _, _, Tryz.underlying93⟩, by kernel_rfl⟩
theorem tab95 : RowOk Tryz.prog ⟨95, .fn, 1, 8, .nilFunc⟩ := ⟨⟨_, _, _, Tryz.underlying95⟩, by kernel_rfl⟩
theorem tab96 : RowOk Tryz.prog ⟨96, .slice 3, 1, 24, .slice none 0 0⟩ := ⟨Tryz.underlying96, by kernel_rfl⟩
theorem tab97 : RowOk Tryz.prog ⟨97, .fn, 1, 8, .nilFunc⟩ := ⟨⟨_, _, _, Tryz.underlying97⟩, by kernel_rfl⟩
theorem tab98 : RowOk Tryz.prog ⟨98, .fn, 1, 8, .nilFunc⟩ := ⟨⟨_, _, _, Tryz.underlying98⟩, by kernel_rfl⟩
theorem tab99 : RowOk Tryz.prog ⟨99, .slice 26, 1, 24, .slice none 0 0⟩ := ⟨Tryz.underlying99, by kernel_rfl⟩
theorem tab100 : RowOk Tryz.prog ⟨100, .fn, 1, 8, .nilFunc⟩ := ⟨⟨_, _, _, Tryz.underlying100⟩, by kernel_rfl⟩
theorem tab101 : RowOk Tryz.prog ⟨101, .fn, 1, 8, .nilFunc⟩ := ⟨⟨_, _, _, Tryz.underlying101⟩, by kernel_rfl⟩
theorem tab102 : RowOk Tryz.prog ⟨102, .fn, 1, 8, .nilFunc⟩ := ⟨⟨_, _, _, Tryz.underlying102⟩, by kernel_rfl⟩
theorem tab103 : RowOk Tryz.prog ⟨103, .fn, 1, 8, .nilFunc⟩ := ⟨⟨_, _, _, Tryz.underlying103⟩, by kernel_rfl⟩
theorem tab105 : RowOk Tryz.prog ⟨105, .fn, 1, 8, .nilFunc⟩ := ⟨⟨_, _, _, Tryz.underlying105⟩, by kernel_rfl⟩
theorem tab106 : RowOk Tryz.prog ⟨106, .fn, 1, 8, .nilFunc⟩ := ⟨⟨_, _, _, Tryz.underlying106⟩, by kernel_rfl⟩
theorem tab107 : RowOk Tryz.prog ⟨107, .fn, 1, 8, .nilFunc⟩ := ⟨⟨_, _, _, Tryz.underlying107⟩, by kernel_rfl⟩
theorem tab108 : RowOk Tryz.prog ⟨108, .fn, 1, 8, .nilFunc⟩ := ⟨⟨_, _, _, Tryz.underlying108⟩, by kernel_rfl⟩
theorem tab109 : RowOk Tryz.prog ⟨109, .fn, 1, 8, .nilFunc⟩ := ⟨⟨_, _, _, Tryz.underlying109⟩, by kernel_rfl⟩
theorem tab110 : RowOk Tryz.prog ⟨110, .array 24 5, 24, 24, .agg #[.int .u8 0, .int .u8 0, .int .u8 0, .int .u8 0, .int .u8 0, .int .u8 0, .int .u8 0, .int .u8 0, .int .u8 0, .int .u8 0, .int .u8 0, .int .u8 0, .int .u8 0, .int .u8 0, .int .u8 0, .int .u8 0, .int .u8 0, .int .u8 0, .int .u8 0, .int .u8 0, .int .u8 0, .int .u8 0, .int .u8 0, .int .u8 0]⟩ := ⟨Tryz.underlying110, by kernel_rfl⟩
theorem tab111 : RowOk Tryz.prog ⟨111, .fn, 1, 8, .nilFunc⟩ := ⟨⟨_, _, _, Tryz.underlying111⟩, by kernel_rfl⟩
theorem tab113 : RowOk Tryz.prog ⟨113, .fn, 1, 8, .nilFunc⟩ := ⟨⟨_, _, _, Tryz.underlying113⟩, by kernel_rfl⟩
theorem tab114 : RowOk Tryz.prog ⟨114, .int .i64, 1, 8, .int .i64 0⟩ := ⟨Tryz.underlying114, by kernel_rfl⟩
theorem tab116 : RowOk Tryz.prog ⟨116, .fn, 1, 8, .nilFunc⟩ := ⟨⟨_, _, _, Tryz.underlying116⟩, by kernel_rfl⟩
theorem tab117 : RowOk Tryz.prog ⟨117, .ptr 134, 1, 8, .pointer none⟩ := ⟨Tryz.underlying117, by kernel_rfl⟩
theorem tab118 : RowOk Tryz.prog ⟨118, .fn, 1, 8, .nilFunc⟩ := ⟨⟨_, _, _, Tryz.underlying118⟩, by kernel_rfl⟩
theorem tab119 : RowOk Tryz.prog ⟨119, .fn, 1, 8, .nilFunc⟩ := ⟨⟨_, _, _, Tryz.underlying119⟩, by kernel_rfl⟩
theorem tab120 : RowOk Tryz.prog ⟨120, .fn, 1, 8, .nilFunc⟩ := ⟨⟨_, _, _, Tryz.underlying120⟩, by kernel_rfl⟩
theorem tab122 : RowOk Tryz.prog ⟨122, .struct [(0, 5), (1, 5)], 2, 2, .agg #[.int .u8 0, .int .u8 0]⟩ := ⟨⟨_, Tryz.underlying122, by kernel_rfl⟩, by kernel_rfl⟩
theorem tab123 : RowOk Tryz.prog ⟨123, .struct [(0, 5), (1, 5)], 2, 2, .agg #[.int .u8 0, .int .u8 0]⟩ := ⟨⟨_, Tryz.underlying123, by kernel_rfl⟩, by kernel_rfl⟩
theorem tab124 : RowOk Tryz.prog ⟨124, .array 16 123, 32, 32, .agg #[.int .u8 0, .int .u8 0, .int .u8 0, .int .u8 0, .int .u8 0, .int .u8 0, .int .u8 0, .int .u8 0, .int .u8 0, .int .u8 0, .int .u8 0, .int .u8 0, .int .u8 0, .int .u8 0, .int .u8 0, .int .u8 0, .int .u8 0, .int .u8 0, .int .u8 0, .int .u8 0, .int .u8 0, .int .u8 0, .int .u8 0, .int .u8 0, .int .u8 0, .int .u8 0, .int .u8 0, .int .u8 0, .int .u8 0, .int .u8 0, .int .u8 0, .int .u8 0]⟩ := ⟨Tryz.underlying124, by kernel_rfl⟩
theorem tab125 : RowOk Tryz.prog ⟨125, .fn, 1, 8, .nilFunc⟩ := ⟨⟨_, _, _, Tryz.underlying125⟩, by kernel_rfl⟩
theorem tab126 : RowOk Tryz.prog ⟨126, .array 20 53, 20, 160, .agg #[.int .u64 0, .int .u64 0, .int .u64 0, .int .u64 0, .int .u64 0, .int .u64 0, .int .u64 0, .int .u64 0, .int .u64 0, .int .u64 0, .int .u64 0, .int .u64 0, .int .u64 0, .int .u64 0, .int .u64 0, .int .u64 0, .int .u64 0, .int .u64 0, .int .u64 0, .int .u64 0]⟩ := ⟨Tryz.underlying126, by kernel_rfl⟩
theorem tab127 : RowOk Tryz.prog ⟨127, .int .u32, 1, 4, .int .u32 0⟩ := ⟨Tryz.underlying127, by kernel_rfl⟩
theorem tab128 : RowOk Tryz.prog ⟨128, .array 65 5, 65, 65, .agg #[.int .u8 0, .int .u8 0, .int .u8 0, .int .u8 0, .int .u8 0, .int .u8 0, .int .u8 0, .int .u8 0, .int .u8 0, .int .u8 0, .int .u8 0, .int .u8 0, .int .u8 0, .int .u8 0, .int .u8 0, .int .u8 0, .int .u8 0, .int .u8 0, .int .u8 0, .int .u8 0, .int .u8 0, .int .u8 0, .int .u8 0, .int .u8 0, .int .u8 0, .int .u8 0, .int .u8 0, .int .u8 0, .int .u8 0, .int .u8 0, .int .u8 0, .int .u8 0, .int .u8 0, .int .u8 0, .int .u8 0, .int .u8 0, .int .u8 0, .int .u8 0, .int .u8 0, .int .u8 0, .int .u8 0, .int .u8 0, .int .u8 0, .int .u8 0, .int .u8 0, .int .u8 0, .int .u8 0, .int .u8 0, .int .u8 0, .int .u8 0, .int .u8 0, .int .u8 0, .int .u8 0, .int .u8 0, .int .u8 0, .int .u8 0, .int .u8 0, .int .u8 0, .int .u8 0, .int .u8 0, .int .u8 0, .int .u8 0, .int .u8 0, .int .u8 0, .int .u8 0]⟩ := ⟨Tryz.underlying128, by kernel_rfl⟩
theorem tab129 : RowOk Tryz.prog ⟨129, .fn, 1, 8, .nilFunc⟩ := ⟨⟨_, _, _, Tryz.underlying129⟩, by kernel_rfl⟩
theorem tab131 : RowOk Tryz.prog ⟨131, .fn, 1, 8, .nilFunc⟩ := ⟨⟨_, _, _, Tryz.underlying131⟩, by kernel_rfl⟩
theorem tab132 : RowOk Tryz.prog ⟨132, .fn, 1, 8, .nilFunc⟩ := ⟨⟨_, _, _, Tryz.underlying132⟩, by kernel_rfl⟩
theorem tab133 : RowOk Tryz.prog ⟨133, .struct [(0, 9), (1, 9), (2, 49)], 3, 48, .agg #[.string ⟨#[]⟩, .string ⟨#[]⟩, .nilIface]⟩ := ⟨⟨_, Tryz.underlying133, by kernel_rfl⟩, by kernel_rfl⟩
theorem tab134 : RowOk Tryz.prog ⟨134, .struct [(0, 9), (1, 9), (2, 49)], 3, 48, .agg #[.string ⟨#[]⟩, .string ⟨#[]⟩, .nilIface]⟩ := ⟨⟨_, Tryz.underlying134, by kernel_rfl⟩, by kernel_rfl⟩
theorem tab135 : RowOk Tryz.prog ⟨135, .fn, 1, 8, .nilFunc⟩ := ⟨⟨_, _, _, Tryz.underlying135⟩, by kernel_rfl⟩
theorem tab137 : RowOk Tryz.prog ⟨137, .fn, 1, 8, .nilFunc⟩ := ⟨⟨_, _, _, Tryz.underlying137⟩, by kernel_rfl⟩
theorem tab138 : RowOk Tryz.prog ⟨138, .fn, 1, 8, .nilFunc⟩ := ⟨⟨_, _, _, Tryz.underlying138⟩, by kernel_rfl⟩
theorem tab139 : RowOk Tryz.prog ⟨139, .ptr 141, 1, 8, .pointer none⟩ := ⟨Tryz.underlying139, by kernel_rfl⟩
theorem tab140 : RowOk Tryz.prog ⟨140, .struct [(0, 9)], 1, 16, .agg #[.string ⟨#[]⟩]⟩ := ⟨⟨_, Tryz.underlying140, by kernel_rfl⟩, by kernel_rfl⟩
theorem tab141 : RowOk Tryz.prog ⟨141, .struct [(0, 9)], 1, 16, .agg #[.string ⟨#[]⟩]⟩ := ⟨⟨_, Tryz.underlying141, by kernel_rfl⟩, by kernel_rfl⟩
theorem tab142 : RowOk Tryz.prog ⟨142, .array 32 5, 32, 32, .agg #[.int .u8 0, .int .u8 0, .int .u8 0, .int .u8 0, .int .u8 0, .int .u8 0, .int .u8 0, .int .u8 0, .int .u8 0, .int .u8 0, .int .u8 0, .int .u8 0, .int .u8 0, .int .u8 0, .int .u8 0, .int .u8 0, .int .u8 0, .int .u8 0, .int .u8 0, .int .u8 0, .int .u8 0, .int .u8 0, .int .u8 0, .int .u8 0, .int .u8 0, .int .u8 0, .int .u8 0, .int .u8 0, .int .u8 0, .int .u8 0, .int .u8 0, .int .u8 0]⟩ := ⟨Tryz.underlying142, by kernel_rfl⟩
theorem tab143 : RowOk Tryz.prog ⟨143, .array 64 5, 64, 64, .agg #[.int .u8 0, .int .u8 0, .int .u8 0, .int .u8 0, .int .u8 0, .int .u8 0, .int .u8 0, .int .u8 0, .int .u8 0, .int .u8 0, .int .u8 0, .int .u8 0, .int .u8 0, .int .u8 0, .int .u8 0, .int .u8 0, .int .u8 0, .int .u8 0, .int .u8 0, .int .u8 0, .int .u8 0, .int .u8 0, .int .u8 0, .int .u8 0, .int .u8 0, .int .u8 0, .int .u8 0, .int .u8 0, .int .u8 0, .int .u8 0, .int .u8 0, .int .u8 0, .int .u8 0, .int .u8 0, .int .u8 0, .int .u8 0, .int .u8 0, .int .u8 0, .int .u8 0, .int .u8 0, .int .u8 0, .int .u8 0, .int .u8 0, .int .u8 0, .int .u8 0, .int .u8 0, .int .u8 0, .int .u8 0, .int .u8 0, .int .u8 0, .int .u8 0, .int .u8 0, .int .u8 0, .int .u8 0, .int .u8 0, .int .u8 0, .int .u8 0, .int .u8 0, .int .u8 0, .int .u8 0, .int .u8 0, .int .u8 0, .int .u8 0, .int .u8 0]⟩ := ⟨Tryz.underlying143, by kernel_rfl⟩
theorem tab144 : RowOk Tryz.prog ⟨144, .struct [(0, 17), (1, 17), (2, 17), (3, 9)], 4, 40, .agg #[.pointer none, .pointer none, .pointer none, .string ⟨#[]⟩]⟩ := ⟨⟨_, Tryz.underlying144, by kernel_rfl⟩, by kernel_rfl⟩
theorem tab145 : RowOk Tryz.prog ⟨145, .struct [(0, 17), (1, 17), (2, 17), (3, 9)], 4, 40, .agg #[.pointer none, .pointer none, .pointer none, .string ⟨#[]⟩]⟩ := ⟨⟨_, Tryz.underlying145, by kernel_rfl⟩, by kernel_rfl⟩
theorem tab146 : RowOk Tryz.prog ⟨146, .array 0 16, 0, 0, .agg #[]⟩ := ⟨Tryz.underlying146, by kernel_rfl⟩
theorem tab147 : RowOk Tryz.prog ⟨147, .struct [(0, 146)], 0, 0, .agg #[]⟩ := ⟨⟨_, Tryz.underlying147, by kernel_rfl⟩, by kernel_rfl⟩
theorem tab148 : RowOk Tryz.prog ⟨148, .struct [(0, 146)], 0, 0, .agg #[]⟩ := ⟨⟨_, Tryz.underlying148, by kernel_rfl⟩, by kernel_rfl⟩
theorem tab149 : RowOk Tryz.prog ⟨149, .int .u8, 1, 1, .int .u8 0⟩ := ⟨Tryz.underlying149, by kernel_rfl⟩
theorem tab150 : RowOk Tryz.prog ⟨150, .int .u8, 1, 1, .int .u8 0⟩ := ⟨Tryz.underlying150, by kernel_rfl⟩
theorem tab151 : RowOk Tryz.prog ⟨151, .fn, 1, 8, .nilFunc⟩ := ⟨⟨_, _, _, Tryz.underlying151⟩, by kernel_rfl⟩
theorem tab152 : RowOk Tryz.prog ⟨152, .int .i32, 1, 4, .int .i32 0⟩ := ⟨Tryz.underlying152, by kernel_rfl⟩
theorem tab153 : RowOk Tryz.prog ⟨153, .int .i32, 1, 4, .int .i32 0⟩ := ⟨Tryz.underlying153, by kernel_rfl⟩
theorem tab154 : RowOk Tryz.prog ⟨154, .struct [(0, 12), (1, 12), (2, 127), (3, 149), (4, 5), (5, 5), (6, 150), (7, 151), (8, 78), (9, 152), (10, 153)], 11, 48, .agg #[.int .u64 0, .int .u64 0, .int .u32 0, .int .u8 0, .int .u8 0, .int .u8 0, .int .u8 0, .nilFunc, .pointer none, .int .i32 0, .int .i32 0]⟩ := ⟨⟨_, Tryz.underlying154, by kernel_rfl⟩, by kernel_rfl⟩
theorem tab155 : RowOk Tryz.prog ⟨155, .struct [(0, 12), (1, 12), (2, 127), (3, 149), (4, 5), (5, 5), (6, 150), (7, 151), (8, 78), (9, 152), (10, 153)], 11, 48, .agg #[.int .u64 0, .int .u64 0, .int .u32 0, .int .u8 0, .int .u8 0, .int .u8 0, .int .u8 0, .nilFunc, .pointer none, .int .i32 0, .int .i32 0]⟩ := ⟨⟨_, Tryz.underlying155, by kernel_rfl⟩, by kernel_rfl⟩
theorem tabOk : TabOk Tryz.prog tab :=
  .cons tab1 <|
  .cons tab2 <|
  .cons tab3 <|
  .cons tab4 <|
  .cons tab5 <|
  .cons tab6 <|
  .cons tab7 <|
  .cons tab8 <|
  .cons tab9 <|
  .cons tab10 <|
  .cons tab11 <|
  .cons tab12 <|
  .cons tab13 <|
  .cons tab14 <|
  .cons tab15 <|
  .cons tab16 <|
  .cons tab17 <|
  .cons tab18 <|
  .cons tab19 <|
  .cons tab20 <|
  .cons tab21 <|
  .cons tab22 <|
  .cons tab23 <|
  .cons tab24 <|
  .cons tab25 <|
  .cons tab26 <|
  .cons tab28 <|
  .cons tab29 <|
  .cons tab30 <|
  .cons tab31 <|
  .cons tab32 <|
  .cons tab34 <|
  .cons tab36 <|
  .cons tab37 <|
  .cons tab38 <|
  .cons tab39 <|
  .cons tab40 <|
  .cons tab41 <|
  .cons tab42 <|
  .cons tab43 <|
  .cons tab44 <|
  .cons tab45 <|
  .cons tab46 <|
  .cons tab47 <|
  .cons tab48 <|
  .cons tab49 <|
  .cons tab51 <|
  .cons tab52 <|
  .cons tab53 <|
  .cons tab54 <|
  .cons tab55 <|
  .cons tab56 <|
  .cons tab57 <|
  .cons tab58 <|
  .cons tab59 <|
  .cons tab60 <|
  .cons tab61 <|
  .cons tab62 <|
  .cons tab63 <|
  .cons tab64 <|
  .cons tab65 <|
  .cons tab66 <|
  .cons tab67 <|
  .cons tab68 <|
  .cons tab69 <|
  .cons tab71 <|
  .cons tab73 <|
  .cons tab74 <|
  .cons tab76 <|
  .cons tab77 <|
  .cons tab78 <|
  .cons tab79 <|
  .cons tab80 <|
  .cons tab81 <|
  .cons tab82 <|
  .cons tab83 <|
  .cons tab84 <|
  .cons tab85 <|
  .cons tab86 <|
  .cons tab87 <|
  .cons tab88 <|
  .cons tab89 <|
  .cons tab90 <|
  .cons tab91 <|
  .cons tab92 <|
  .cons tab93 <|
  .cons tab95 <|
  .cons tab96 <|
  .cons tab97 <|
  .cons tab98 <|
  .cons tab99 <|
  .cons tab100 <|
  .cons tab101 <|
  .cons tab102 <|
  .cons tab103 <|
  .cons tab105 <|
  .cons tab106 <|
  .cons tab107 <|
  .cons tab108 <|
  .cons tab109 <|
  .cons tab110 <|
  .cons tab111 <|
  .cons tab113 <|
  .cons tab114 <|
  .cons tab116 <|
  .cons tab117 <|
  .cons tab118 <|
  .cons tab119 <|
  .cons tab120 <|
  .cons tab122 <|
  .cons tab123 <|
  .cons tab124 <|
  .cons tab125 <|
  .cons tab126 <|
  .cons tab127 <|
  .cons tab128 <|
  .cons tab129 <|
  .cons tab131 <|
  .cons tab132 <|
  .cons tab133 <|
  .cons tab134 <|
  .cons tab135 <|
  .cons tab137 <|
  .cons tab138 <|
  .cons tab139 <|
  .cons tab140 <|
  .cons tab141 <|
  .cons tab142 <|
  .cons tab143 <|
  .cons tab144 <|
  .cons tab145 <|
  .cons tab146 <|
  .cons tab147 <|
  .cons tab148 <|
  .cons tab149 <|
  .cons tab150 <|
  .cons tab151 <|
  .cons tab152 <|
  .cons tab153 <|
  .cons tab154 <|
  .cons tab155 <| .nil
theorem mixed : Tryz.prog.follows .mixedOrders = true := by kernel_rfl
end Go.Proofs.YtajmmolfnjdanaaGreatDoor
