/- The table of types of this seat, and that it is right. -/
import Derived.Test.YtdiacjlnedccpaaDoorRows
import Derived.Test.YtdiacjlnedccpaaDoorEngL
namespace Go.Proofs.YtdiacjlnedccpaaDoor
open Go.RowKit
def tab : Tab := [
  ⟨1, .fn, 1, 8, .nilFunc⟩,
  ⟨2, .int .i64, 1, 8, .int .i64 0⟩,
  ⟨3, .int .i64, 1, 8, .int .i64 0⟩,
  ⟨4, .bool, 1, 1, .bool false⟩,
  ⟨5, .int .u8, 1, 1, .int .u8 0⟩,
  ⟨6, .int .u8, 1, 1, .int .u8 0⟩,
  ⟨7, .struct [(0, 2), (1, 3), (2, 4), (3, 6)], 4, 24, .agg #[.int .i64 0, .int .i64 0, .bool false, .int .u8 0]⟩,
  ⟨8, .struct [(0, 2), (1, 3), (2, 4), (3, 6)], 4, 24, .agg #[.int .i64 0, .int .i64 0, .bool false, .int .u8 0]⟩,
  ⟨9, .string, 1, 16, .string ⟨#[]⟩⟩,
  ⟨10, .string, 1, 16, .string ⟨#[]⟩⟩,
  ⟨11, .string, 1, 16, .string ⟨#[]⟩⟩,
  ⟨12, .int .u64, 1, 8, .int .u64 0⟩,
  ⟨13, .struct [(0, 9), (1, 12)], 2, 24, .agg #[.string ⟨#[]⟩, .int .u64 0]⟩,
  ⟨14, .struct [(0, 9), (1, 12)], 2, 24, .agg #[.string ⟨#[]⟩, .int .u64 0]⟩,
  ⟨15, .ptr 121, 1, 8, .pointer none⟩,
  ⟨16, .ptr 124, 1, 8, .pointer none⟩,
  ⟨17, .ptr 131, 1, 8, .pointer none⟩,
  ⟨18, .struct [(0, 17)], 1, 8, .agg #[.pointer none]⟩,
  ⟨19, .struct [(0, 17)], 1, 8, .agg #[.pointer none]⟩,
  ⟨20, .iface, 1, 16, .nilIface⟩,
  ⟨21, .int .i32, 1, 4, .int .i32 0⟩,
  ⟨22, .struct [(0, 3), (1, 3), (2, 9)], 3, 32, .agg #[.int .i64 0, .int .i64 0, .string ⟨#[]⟩]⟩,
  ⟨23, .struct [(0, 3), (1, 3), (2, 9)], 3, 32, .agg #[.int .i64 0, .int .i64 0, .string ⟨#[]⟩]⟩,
  ⟨24, .fn, 1, 8, .nilFunc⟩,
  ⟨25, .fn, 1, 8, .nilFunc⟩,
  ⟨26, .fn, 1, 8, .nilFunc⟩,
  ⟨27, .fn, 1, 8, .nilFunc⟩,
  ⟨28, .fn, 1, 8, .nilFunc⟩,
  ⟨29, .int .i64, 1, 8, .int .i64 0⟩,
  ⟨31, .fn, 1, 8, .nilFunc⟩,
  ⟨32, .fn, 1, 8, .nilFunc⟩,
  ⟨33, .array 2 9, 2, 32, .agg #[.string ⟨#[]⟩, .string ⟨#[]⟩]⟩,
  ⟨34, .fn, 1, 8, .nilFunc⟩,
  ⟨35, .fn, 1, 8, .nilFunc⟩,
  ⟨36, .fn, 1, 8, .nilFunc⟩,
  ⟨37, .fn, 1, 8, .nilFunc⟩,
  ⟨38, .fn, 1, 8, .nilFunc⟩,
  ⟨39, .fn, 1, 8, .nilFunc⟩,
  ⟨40, .slice 5, 1, 24, .slice none 0 0⟩,
  ⟨41, .fn, 1, 8, .nilFunc⟩,
  ⟨42, .int .u64, 1, 8, .int .u64 0⟩,
  ⟨43, .fn, 1, 8, .nilFunc⟩,
  ⟨44, .ptr 46, 1, 8, .pointer none⟩,
  ⟨45, .struct [(0, 44), (1, 40)], 2, 32, .agg #[.pointer none, .slice none 0 0]⟩,
  ⟨46, .struct [(0, 44), (1, 40)], 2, 32, .agg #[.pointer none, .slice none 0 0]⟩,
  ⟨47, .fn, 1, 8, .nilFunc⟩,
  ⟨48, .iface, 1, 16, .nilIface⟩,
  ⟨49, .iface, 1, 16, .nilIface⟩,
  ⟨50, .fn, 1, 8, .nilFunc⟩,
  ⟨51, .fn, 1, 8, .nilFunc⟩,
  ⟨53, .fn, 1, 8, .nilFunc⟩,
  ⟨54, .int .u64, 1, 8, .int .u64 0⟩,
  ⟨55, .fn, 1, 8, .nilFunc⟩,
  ⟨56, .fn, 1, 8, .nilFunc⟩,
  ⟨57, .fn, 1, 8, .nilFunc⟩,
  ⟨59, .fn, 1, 8, .nilFunc⟩,
  ⟨61, .fn, 1, 8, .nilFunc⟩,
  ⟨62, .fn, 1, 8, .nilFunc⟩,
  ⟨63, .array 4 9, 4, 64, .agg #[.string ⟨#[]⟩, .string ⟨#[]⟩, .string ⟨#[]⟩, .string ⟨#[]⟩]⟩,
  ⟨65, .fn, 1, 8, .nilFunc⟩,
  ⟨66, .fn, 1, 8, .nilFunc⟩,
  ⟨67, .fn, 1, 8, .nilFunc⟩,
  ⟨68, .slice 3, 1, 24, .slice none 0 0⟩,
  ⟨69, .fn, 1, 8, .nilFunc⟩,
  ⟨70, .fn, 1, 8, .nilFunc⟩,
  ⟨71, .ptr 5, 1, 8, .pointer none⟩,
  ⟨72, .fn, 1, 8, .nilFunc⟩,
  ⟨73, .fn, 1, 8, .nilFunc⟩,
  ⟨74, .fn, 1, 8, .nilFunc⟩,
  ⟨75, .fn, 1, 8, .nilFunc⟩,
  ⟨76, .fn, 1, 8, .nilFunc⟩,
  ⟨78, .fn, 1, 8, .nilFunc⟩,
  ⟨79, .fn, 1, 8, .nilFunc⟩,
  ⟨81, .fn, 1, 8, .nilFunc⟩,
  ⟨82, .fn, 1, 8, .nilFunc⟩,
  ⟨83, .fn, 1, 8, .nilFunc⟩,
  ⟨84, .array 24 5, 24, 24, .agg #[.int .u8 0, .int .u8 0, .int .u8 0, .int .u8 0, .int .u8 0, .int .u8 0, .int .u8 0, .int .u8 0, .int .u8 0, .int .u8 0, .int .u8 0, .int .u8 0, .int .u8 0, .int .u8 0, .int .u8 0, .int .u8 0, .int .u8 0, .int .u8 0, .int .u8 0, .int .u8 0, .int .u8 0, .int .u8 0, .int .u8 0, .int .u8 0]⟩,
  ⟨85, .fn, 1, 8, .nilFunc⟩,
  ⟨86, .fn, 1, 8, .nilFunc⟩,
  ⟨88, .fn, 1, 8, .nilFunc⟩,
  ⟨89, .int .i64, 1, 8, .int .i64 0⟩,
  ⟨91, .fn, 1, 8, .nilFunc⟩,
  ⟨92, .ptr 110, 1, 8, .pointer none⟩,
  ⟨93, .fn, 1, 8, .nilFunc⟩,
  ⟨94, .fn, 1, 8, .nilFunc⟩,
  ⟨95, .fn, 1, 8, .nilFunc⟩,
  ⟨96, .fn, 1, 8, .nilFunc⟩,
  ⟨98, .struct [(0, 5), (1, 5)], 2, 2, .agg #[.int .u8 0, .int .u8 0]⟩,
  ⟨99, .struct [(0, 5), (1, 5)], 2, 2, .agg #[.int .u8 0, .int .u8 0]⟩,
  ⟨100, .array 16 99, 32, 32, .agg #[.int .u8 0, .int .u8 0, .int .u8 0, .int .u8 0, .int .u8 0, .int .u8 0, .int .u8 0, .int .u8 0, .int .u8 0, .int .u8 0, .int .u8 0, .int .u8 0, .int .u8 0, .int .u8 0, .int .u8 0, .int .u8 0, .int .u8 0, .int .u8 0, .int .u8 0, .int .u8 0, .int .u8 0, .int .u8 0, .int .u8 0, .int .u8 0, .int .u8 0, .int .u8 0, .int .u8 0, .int .u8 0, .int .u8 0, .int .u8 0, .int .u8 0, .int .u8 0]⟩,
  ⟨101, .fn, 1, 8, .nilFunc⟩,
  ⟨102, .array 20 42, 20, 160, .agg #[.int .u64 0, .int .u64 0, .int .u64 0, .int .u64 0, .int .u64 0, .int .u64 0, .int .u64 0, .int .u64 0, .int .u64 0, .int .u64 0, .int .u64 0, .int .u64 0, .int .u64 0, .int .u64 0, .int .u64 0, .int .u64 0, .int .u64 0, .int .u64 0, .int .u64 0, .int .u64 0]⟩,
  ⟨103, .int .u32, 1, 4, .int .u32 0⟩,
  ⟨104, .array 65 5, 65, 65, .agg #[.int .u8 0, .int .u8 0, .int .u8 0, .int .u8 0, .int .u8 0, .int .u8 0, .int .u8 0, .int .u8 0, .int .u8 0, .int .u8 0, .int .u8 0, .int .u8 0, .int .u8 0, .int .u8 0, .int .u8 0, .int .u8 0, .int .u8 0, .int .u8 0, .int .u8 0, .int .u8 0, .int .u8 0, .int .u8 0, .int .u8 0, .int .u8 0, .int .u8 0, .int .u8 0, .int .u8 0, .int .u8 0, .int .u8 0, .int .u8 0, .int .u8 0, .int .u8 0, .int .u8 0, .int .u8 0, .int .u8 0, .int .u8 0, .int .u8 0, .int .u8 0, .int .u8 0, .int .u8 0, .int .u8 0, .int .u8 0, .int .u8 0, .int .u8 0, .int .u8 0, .int .u8 0, .int .u8 0, .int .u8 0, .int .u8 0, .int .u8 0, .int .u8 0, .int .u8 0, .int .u8 0, .int .u8 0, .int .u8 0, .int .u8 0, .int .u8 0, .int .u8 0, .int .u8 0, .int .u8 0, .int .u8 0, .int .u8 0, .int .u8 0, .int .u8 0, .int .u8 0]⟩,
  ⟨105, .fn, 1, 8, .nilFunc⟩,
  ⟨107, .fn, 1, 8, .nilFunc⟩,
  ⟨108, .fn, 1, 8, .nilFunc⟩,
  ⟨109, .struct [(0, 9), (1, 9), (2, 49)], 3, 48, .agg #[.string ⟨#[]⟩, .string ⟨#[]⟩, .nilIface]⟩,
  ⟨110, .struct [(0, 9), (1, 9), (2, 49)], 3, 48, .agg #[.string ⟨#[]⟩, .string ⟨#[]⟩, .nilIface]⟩,
  ⟨111, .fn, 1, 8, .nilFunc⟩,
  ⟨113, .fn, 1, 8, .nilFunc⟩,
  ⟨114, .fn, 1, 8, .nilFunc⟩,
  ⟨115, .ptr 117, 1, 8, .pointer none⟩,
  ⟨116, .struct [(0, 9)], 1, 16, .agg #[.string ⟨#[]⟩]⟩,
  ⟨117, .struct [(0, 9)], 1, 16, .agg #[.string ⟨#[]⟩]⟩,
  ⟨118, .array 32 5, 32, 32, .agg #[.int .u8 0, .int .u8 0, .int .u8 0, .int .u8 0, .int .u8 0, .int .u8 0, .int .u8 0, .int .u8 0, .int .u8 0, .int .u8 0, .int .u8 0, .int .u8 0, .int .u8 0, .int .u8 0, .int .u8 0, .int .u8 0, .int .u8 0, .int .u8 0, .int .u8 0, .int .u8 0, .int .u8 0, .int .u8 0, .int .u8 0, .int .u8 0, .int .u8 0, .int .u8 0, .int .u8 0, .int .u8 0, .int .u8 0, .int .u8 0, .int .u8 0, .int .u8 0]⟩,
  ⟨119, .array 64 5, 64, 64, .agg #[.int .u8 0, .int .u8 0, .int .u8 0, .int .u8 0, .int .u8 0, .int .u8 0, .int .u8 0, .int .u8 0, .int .u8 0, .int .u8 0, .int .u8 0, .int .u8 0, .int .u8 0, .int .u8 0, .int .u8 0, .int .u8 0, .int .u8 0, .int .u8 0, .int .u8 0, .int .u8 0, .int .u8 0, .int .u8 0, .int .u8 0, .int .u8 0, .int .u8 0, .int .u8 0, .int .u8 0, .int .u8 0, .int .u8 0, .int .u8 0, .int .u8 0, .int .u8 0, .int .u8 0, .int .u8 0, .int .u8 0, .int .u8 0, .int .u8 0, .int .u8 0, .int .u8 0, .int .u8 0, .int .u8 0, .int .u8 0, .int .u8 0, .int .u8 0, .int .u8 0, .int .u8 0, .int .u8 0, .int .u8 0, .int .u8 0, .int .u8 0, .int .u8 0, .int .u8 0, .int .u8 0, .int .u8 0, .int .u8 0, .int .u8 0, .int .u8 0, .int .u8 0, .int .u8 0, .int .u8 0, .int .u8 0, .int .u8 0, .int .u8 0, .int .u8 0]⟩,
  ⟨120, .struct [(0, 17), (1, 17), (2, 17), (3, 9)], 4, 40, .agg #[.pointer none, .pointer none, .pointer none, .string ⟨#[]⟩]⟩,
  ⟨121, .struct [(0, 17), (1, 17), (2, 17), (3, 9)], 4, 40, .agg #[.pointer none, .pointer none, .pointer none, .string ⟨#[]⟩]⟩,
  ⟨122, .array 0 16, 0, 0, .agg #[]⟩,
  ⟨123, .struct [(0, 122)], 0, 0, .agg #[]⟩,
  ⟨124, .struct [(0, 122)], 0, 0, .agg #[]⟩,
  ⟨125, .int .u8, 1, 1, .int .u8 0⟩,
  ⟨126, .int .u8, 1, 1, .int .u8 0⟩,
  ⟨127, .fn, 1, 8, .nilFunc⟩,
  ⟨128, .int .i32, 1, 4, .int .i32 0⟩,
  ⟨129, .int .i32, 1, 4, .int .i32 0⟩,
  ⟨130, .struct [(0, 12), (1, 12), (2, 103), (3, 125), (4, 5), (5, 5), (6, 126), (7, 127), (8, 71), (9, 128), (10, 129)], 11, 48, .agg #[.int .u64 0, .int .u64 0, .int .u32 0, .int .u8 0, .int .u8 0, .int .u8 0, .int .u8 0, .nilFunc, .pointer none, .int .i32 0, .int .i32 0]⟩,
  ⟨131, .struct [(0, 12), (1, 12), (2, 103), (3, 125), (4, 5), (5, 5), (6, 126), (7, 127), (8, 71), (9, 128), (10, 129)], 11, 48, .agg #[.int .u64 0, .int .u64 0, .int .u32 0, .int .u8 0, .int .u8 0, .int .u8 0, .int .u8 0, .nilFunc, .pointer none, .int .i32 0, .int .i32 0]⟩]
theorem tab1 : RowOk Tryd.prog ⟨1, .fn, 1, 8, .nilFunc⟩ := ⟨⟨_, _, _, Tryd.underlying1⟩, by kernel_rfl⟩
theorem tab2 : RowOk Tryd.prog ⟨2, .int .i64, 1, 8, .int .i64 0⟩ := ⟨Tryd.underlying2, by kernel_rfl⟩
theorem tab3 : RowOk Tryd.prog ⟨3, .int .i64, 1, 8, .int .i64 0⟩ := ⟨Tryd.underlying3, by kernel_rfl⟩
theorem tab4 : RowOk Tryd.prog ⟨4, .bool, 1, 1, .bool false⟩ := ⟨Tryd.underlying4, by kernel_rfl⟩
theorem tab5 : RowOk Tryd.prog ⟨5, .int .u8, 1, 1, .int .u8 0⟩ := ⟨Tryd.underlying5, by kernel_rfl⟩
theorem tab6 : RowOk Tryd.prog ⟨6, .int .u8, 1, 1, .int .u8 0⟩ := ⟨Tryd.underlying6, by kernel_rfl⟩
theorem tab7 : RowOk Tryd.prog ⟨7, .struct [(0, 2), (1, 3), (2, 4), (3, 6)], 4, 24, .agg #[.int .i64 0, .int .i64 0, .bool false, .int .u8 0]⟩ := ⟨⟨_, Tryd.underlying7, by kernel_rfl⟩, by kernel_rfl⟩
theorem tab8 : RowOk Tryd.prog ⟨8, .struct [(0, 2), (1, 3), (2, 4), (3, 6)], 4, 24, .agg #[.int .i64 0, .int .i64 0, .bool false, .int .u8 0]⟩ := ⟨⟨_, Tryd.underlying8, by kernel_rfl⟩, by kernel_rfl⟩
theorem tab9 : RowOk Tryd.prog ⟨9, .string, 1, 16, .string ⟨#[]⟩⟩ := ⟨Tryd.underlying9, by kernel_rfl⟩
theorem tab10 : RowOk Tryd.prog ⟨10, .string, 1, 16, .string ⟨#[]⟩⟩ := ⟨Tryd.underlying10, by kernel_rfl⟩
theorem tab11 : RowOk Tryd.prog ⟨11, .string, 1, 16, .string ⟨#[]⟩⟩ := ⟨Tryd.underlying11, by kernel_rfl⟩
theorem tab12 : RowOk Tryd.prog ⟨12, .int .u64, 1, 8, .int .u64 0⟩ := ⟨Tryd.underlying12, by kernel_rfl⟩
theorem tab13 : RowOk Tryd.prog ⟨13, .struct [(0, 9), (1, 12)], 2, 24, .agg #[.string ⟨#[]⟩, .int .u64 0]⟩ := ⟨⟨_, Tryd.underlying13, by kernel_rfl⟩, by kernel_rfl⟩
theorem tab14 : RowOk Tryd.prog ⟨14, .struct [(0, 9), (1, 12)], 2, 24, .agg #[.string ⟨#[]⟩, .int .u64 0]⟩ := ⟨⟨_, Tryd.underlying14, by kernel_rfl⟩, by kernel_rfl⟩
theorem tab15 : RowOk Tryd.prog ⟨15, .ptr 121, 1, 8, .pointer none⟩ := ⟨Tryd.underlying15, by kernel_rfl⟩
theorem tab16 : RowOk Tryd.prog ⟨16, .ptr 124, 1, 8, .pointer none⟩ := ⟨Tryd.underlying16, by kernel_rfl⟩
theorem tab17 : RowOk Tryd.prog ⟨17, .ptr 131, 1, 8, .pointer none⟩ := ⟨Tryd.underlying17, by kernel_rfl⟩
theorem tab18 : RowOk Tryd.prog ⟨18, .struct [(0, 17)], 1, 8, .agg #[.pointer none]⟩ := ⟨⟨_, Tryd.underlying18, by kernel_rfl⟩, by kernel_rfl⟩
theorem tab19 : RowOk Tryd.prog ⟨19, .struct [(0, 17)], 1, 8, .agg #[.pointer none]⟩ := ⟨⟨_, Tryd.underlying19, by kernel_rfl⟩, by kernel_rfl⟩
theorem tab20 : RowOk Tryd.prog ⟨20, .iface, 1, 16, .nilIface⟩ := ⟨⟨_, Tryd.underlying20⟩, by kernel_rfl⟩
theorem tab21 : RowOk Tryd.prog ⟨21, .int .i32, 1, 4, .int .i32 0⟩ := ⟨Tryd.underlying21, by kernel_rfl⟩
theorem tab22 : RowOk Tryd.prog ⟨22, .struct [(0, 3), (1, 3), (2, 9)], 3, 32, .agg #[.int .i64 0, .int .i64 0, .string ⟨#[]⟩]⟩ := ⟨⟨_, Tryd.underlying22, by kernel_rfl⟩, by kernel_rfl⟩
theorem tab23 : RowOk Tryd.prog ⟨23, .struct [(0, 3), (1, 3), (2, 9)], 3, 32, .agg #[.int .i64 0, .int .i64 0, .string ⟨#[]⟩]⟩ := ⟨⟨_, Tryd.underlying23, by kernel_rfl⟩, by kernel_rfl⟩
theorem tab24 : RowOk Tryd.prog ⟨24, .fn, 1, 8, .nilFunc⟩ := ⟨⟨_, _, _, Tryd.underlying24⟩, by kernel_rfl⟩
theorem tab25 : RowOk Tryd.prog ⟨25, .fn, 1, 8, .nilFunc⟩ := ⟨⟨_, _, _, Tryd.underlying25⟩, by kernel_rfl⟩
theorem tab26 : RowOk Tryd.prog ⟨26, .fn, 1, 8, .nilFunc⟩ := ⟨⟨_, _, _, Tryd.underlying26⟩, by kernel_rfl⟩
theorem tab27 : RowOk Tryd.prog ⟨27, .fn, 1, 8, .nilFunc⟩ := ⟨⟨_, _, _, Tryd.underlying27⟩, by kernel_rfl⟩
theorem tab28 : RowOk Tryd.prog ⟨28, .fn, 1, 8, .nilFunc⟩ := ⟨⟨_, _, _, Tryd.underlying28⟩, by kernel_rfl⟩
theorem tab29 : RowOk Tryd.prog ⟨29, .int .i64, 1, 8, .int .i64 0⟩ := ⟨Tryd.underlying29, by kernel_rfl⟩
theorem tab31 : RowOk Tryd.prog ⟨31, .fn, 1, 8, .nilFunc⟩ := ⟨⟨_, _, _, Tryd.underlying31⟩, by kernel_rfl⟩
theorem tab32 : RowOk Tryd.prog ⟨32, .fn, 1, 8, .nilFunc⟩ := ⟨⟨_, _, _, Tryd.underlying32⟩, by kernel_rfl⟩
theorem tab33 : RowOk Tryd.prog ⟨33, .array 2 9, 2, 32, .agg #[.string ⟨#[]⟩, .string ⟨#[]⟩]⟩ := ⟨Tryd.underlying33, by kernel_rfl⟩
theorem tab34 : RowOk Tryd.prog ⟨34, .fn, 1, 8, .nilFunc⟩ := ⟨⟨_, _, _, Tryd.underlying34⟩, by kernel_rfl⟩
theorem tab35 : RowOk Tryd.prog ⟨35, .fn, 1, 8, .nilFunc⟩ := ⟨⟨_, _, _, Tryd.underlying35⟩, by kernel_rfl⟩
theorem tab36 : RowOk Tryd.prog ⟨36, .fn, 1, 8, .nilFunc⟩ := ⟨⟨_, _, _, Tryd.underlying36⟩, by kernel_rfl⟩
theorem tab37 : RowOk Tryd.prog ⟨37, .fn, 1, 8, .nilFunc⟩ := ⟨⟨_, _, _, Tryd.underlying37⟩, by kernel_rfl⟩
theorem tab38 : RowOk Tryd.prog ⟨38, .fn, 1, 8, .nilFunc⟩ := ⟨⟨_, _, _, Tryd.underlying38⟩, by kernel_rfl⟩
theorem tab39 : RowOk Tryd.prog ⟨39, .fn, 1, 8, .nilFunc⟩ := ⟨⟨_, _, _, Tryd.underlying39⟩, by kernel_rfl⟩
theorem tab40 : RowOk Tryd.prog ⟨40, .slice 5, 1, 24, .slice none 0 0⟩ := ⟨Tryd.underlying40, by kernel_rfl⟩
theorem tab41 : RowOk Tryd.prog ⟨41, .fn, 1, 8, .nilFunc⟩ := ⟨⟨_, _, _, Tryd.underlying41⟩, by kernel_rfl⟩
theorem tab42 : RowOk Tryd.prog ⟨42, .int .u64, 1, 8, .int .u64 0⟩ := ⟨Tryd.underlying42, by kernel_rfl⟩
theorem tab43 : RowOk Tryd.prog ⟨43, .fn, 1, 8, .nilFunc⟩ := ⟨⟨_, _, _, Tryd.underlying43⟩, by kernel_rfl⟩
theorem tab44 : RowOk Tryd.prog ⟨44, .ptr 46, 1, 8, .pointer none⟩ := ⟨Tryd.underlying44, by kernel_rfl⟩
theorem tab45 : RowOk Tryd.prog ⟨45, .struct [(0, 44), (1, 40)], 2, 32, .agg #[.pointer none, .slice none 0 0]⟩ := ⟨⟨_, Tryd.underlying45, by kernel_rfl⟩, by kernel_rfl⟩
theorem tab46 : RowOk Tryd.prog ⟨46, .struct [(0, 44), (1, 40)], 2, 32, .agg #[.pointer none, .slice none 0 0]⟩ := ⟨⟨_, Tryd.underlying46, by kernel_rfl⟩, by kernel_rfl⟩
theorem tab47 : RowOk Tryd.prog ⟨47, .fn, 1, 8, .nilFunc⟩ := ⟨⟨_, _, _, Tryd.underlying47⟩, by kernel_rfl⟩
theorem tab48 : RowOk Tryd.prog ⟨48, .iface, 1, 16, .nilIface⟩ := ⟨⟨_, Tryd.underlying48⟩, by kernel_rfl⟩
theorem tab49 : RowOk Tryd.prog ⟨49, .iface, 1, 16, .nilIface⟩ := ⟨⟨_, Tryd.underlying49⟩, by kernel_rfl⟩
theorem tab50 : RowOk Tryd.prog ⟨50, .fn, 1, 8, .nilFunc⟩ := ⟨⟨_, _, _, Tryd.underlying50⟩, by kernel_rfl⟩
theorem tab51 : RowOk Tryd.prog ⟨51, .fn, 1, 8, .nilFunc⟩ := ⟨⟨_, _, _, Tryd.underlying51⟩, by kernel_rfl⟩
theorem tab53 : RowOk Tryd.prog ⟨53, .fn, 1, 8, .nilFunc⟩ := ⟨⟨_, _, _, Tryd.underlying53⟩, by kernel_rfl⟩
theorem tab54 : RowOk Tryd.prog ⟨54, .int .u64, 1, 8, .int .u64 0⟩ := ⟨Tryd.underlying54, by kernel_rfl⟩
theorem tab55 : RowOk Tryd.prog ⟨55, .fn, 1, 8, .nilFunc⟩ := ⟨⟨_, _, _, Tryd.underlying55⟩, by kernel_rfl⟩
theorem tab56 : RowOk Tryd.prog ⟨56, .fn, 1, 8, .nilFunc⟩ := ⟨⟨_, _, _, Tryd.underlying56⟩, by kernel_rfl⟩
theorem tab57 : RowOk Tryd.prog ⟨57, .fn, 1, 8, .nilFunc⟩ := ⟨⟨_, _, _, Tryd.underlying57⟩, by kernel_rfl⟩
theorem tab59 : RowOk Tryd.prog ⟨59, .fn, 1, 8, .nilFunc⟩ := ⟨⟨_, _, _, Tryd.underlying59⟩, by kernel_rfl⟩
theorem tab61 : RowOk Tryd.prog ⟨61, .fn, 1, 8, .nilFunc⟩ := ⟨⟨_, _, _, Tryd.underlying61⟩, by kernel_rfl⟩
theorem tab62 : RowOk Tryd.prog ⟨62, .fn, 1, 8, .nilFunc⟩ := ⟨⟨_, _, _, Tryd.underlying62⟩, by kernel_rfl⟩
theorem tab63 : RowOk Tryd.prog ⟨63, .array 4 9, 4, 64, .agg #[.string ⟨#[]⟩, .string ⟨#[]⟩, .string ⟨#[]⟩, .string ⟨#[]⟩]⟩ := ⟨Tryd.underlying63, by kernel_rfl⟩
theorem tab65 : RowOk Tryd.prog ⟨65, .fn, 1, 8, .nilFunc⟩ := ⟨⟨_, _, _, Tryd.underlying65⟩, by kernel_rfl⟩
theorem tab66 : RowOk Tryd.prog ⟨66, .fn, 1, 8, .nilFunc⟩ := ⟨⟨_, _, _, Tryd.underlying66⟩, by kernel_rfl⟩
theorem tab67 : RowOk Tryd.prog ⟨67, .fn, 1, 8, .nilFunc⟩ := ⟨⟨_, _, _, Tryd.underlying67⟩, by kernel_rfl⟩
theorem tab68 : RowOk Tryd.prog ⟨68, .slice 3, 1, 24, .slice none 0 0⟩ := ⟨Tryd.underlying68, by kernel_rfl⟩
theorem tab69 : RowOk Tryd.prog ⟨69, .fn, 1, 8, .nilFunc⟩ := ⟨⟨_, _, _, Tryd.underlying69⟩, by kernel_rfl⟩
theorem tab70 : RowOk Tryd.prog ⟨70, .fn, 1, 8, .nilFunc⟩ := ⟨⟨_, _, _, Tryd.underlying70⟩, by kernel_rfl⟩
theorem tab71 : RowOk Tryd.prog ⟨71, .ptr 5, 1, 8, .pointer none⟩ := ⟨Tryd.underlying71, by kernel_rfl⟩
theorem tab72 : RowOk Tryd.prog ⟨72, .fn, 1, 8, .nilFunc⟩ := ⟨⟨_, _, _, Tryd.underlying72⟩, by kernel_rfl⟩
theorem tab73 : RowOk Tryd.prog ⟨73, .fn, 1, 8, .nilFunc⟩ := ⟨⟨_, _, _, Tryd.underlying73⟩, by kernel_rfl⟩
theorem tab74 : RowOk Tryd.prog ⟨74, .fn, 1, 8, .nilFunc⟩ := ⟨⟨_, _, _, Tryd.underlying74⟩, by kernel_rfl⟩
theorem tab75 : RowOk Tryd.prog ⟨75, .fn, 1, 8, .nilFunc⟩ := ⟨⟨_, _, _, Tryd.underlying75⟩, by kernel_rfl⟩
theorem tab76 : RowOk Tryd.prog ⟨76, .fn, 1, 8, .nilFunc⟩ := ⟨⟨_, _, _, Tryd.underlying76⟩, by kernel_rfl⟩
theorem tab78 : RowOk Tryd.prog ⟨78, .fn, 1, 8, .nilFunc⟩ := ⟨⟨_, _, _, Tryd.underlying78⟩, by kernel_rfl⟩
theorem tab79 : RowOk Tryd.prog ⟨79, .fn, 1, 8, .nilFunc⟩ := ⟨⟨_, _, _, Tryd.underlying79⟩, by kernel_rfl⟩
theorem tab81 : RowOk Tryd.prog ⟨81, .fn, 1, 8, .nilFunc⟩ := ⟨⟨_, _, _, Tryd.underlying81⟩, by kernel_rfl⟩
theorem tab82 : RowOk Tryd.prog ⟨82, .fn, 1, 8, .nilFunc⟩ := ⟨⟨_, _, _, Tryd.underlying82⟩, by kernel_rfl⟩
theorem tab83 : RowOk Tryd.prog ⟨83, .fn, 1, 8, .nilFunc⟩ := ⟨⟨_, _, _, Tryd.underlying83⟩, by kernel_rfl⟩
theorem tab84 : RowOk Tryd.prog ⟨84, .array 24 5, 24, 24, .agg #[.int .u8 0, .int .u8 0, .int .u8 0, .int .u8 0, .int .u8 0, .int .u8 0, .int .u8 0, .int .u8 0, .int .u8 0, .int .u8 0, .int .u8 0, .int .u8 0, .int .u8 0, .int .u8 0, .int .u8 0, .int .u8 0, .int .u8 0, .int .u8 0, .int .u8 0, .int .u8 0, .int .u8 0, .int .u8 0, .int .u8 0, .int .u8 0]⟩ := ⟨Tryd.underlying84, by kernel_rfl⟩
theorem tab85 : RowOk Tryd.prog ⟨85, .fn, 1, 8, .nilFunc⟩ := ⟨⟨_, _, _, Tryd.underlying85⟩, by kernel_rfl⟩
theorem tab86 : RowOk Tryd.prog ⟨86, .fn, 1, 8, .nilFunc⟩ := ⟨⟨_, _, _, Tryd.underlying86⟩, by kernel_rfl⟩
theorem tab88 : RowOk Tryd.prog ⟨88, .fn, 1, 8, .nilFunc⟩ := ⟨⟨_, _, _, Tryd.underlying88⟩, by kernel_rfl⟩
theorem tab89 : RowOk Tryd.prog ⟨89, .int .i64, 1, 8, .int .i64 0⟩ := ⟨Tryd.underlying89, by kernel_rfl⟩
theorem tab91 : RowOk Tryd.prog ⟨91, .fn, 1, 8, .nilFunc⟩ := ⟨⟨_, _, _, Tryd.underlying91⟩, by kernel_rfl⟩
theorem tab92 : RowOk Tryd.prog ⟨92, .ptr 110, 1, 8, .pointer none⟩ := ⟨Tryd.underlying92, by kernel_rfl⟩
theorem tab93 : RowOk Tryd.prog ⟨93, .fn, 1, 8, .nilFunc⟩ := ⟨⟨_, _, _, Tryd.underlying93⟩, by kernel_rfl⟩
theorem tab94 : RowOk Tryd.prog ⟨94, .fn, 1, 8, .nilFunc⟩ := ⟨⟨_, _, _, Tryd.underlying94⟩, by kernel_rfl⟩
theorem tab95 : RowOk Tryd.prog ⟨95, .fn, 1, 8, .nilFunc⟩ := ⟨⟨_, _, _, Tryd.underlying95⟩, by kernel_rfl⟩
theorem tab96 : RowOk Tryd.prog ⟨96, .fn, 1, 8, .nilFunc⟩ := ⟨⟨_, _, _, Tryd.underlying96⟩, by kernel_rfl⟩
theorem tab98 : RowOk Tryd.prog ⟨98, .struct [(0, 5), (1, 5)], 2, 2, .agg #[.int .u8 0, .int .u8 0]⟩ := ⟨⟨_, Tryd.underlying98, by kernel_rfl⟩, by kernel_rfl⟩
theorem tab99 : RowOk Tryd.prog ⟨99, .struct [(0, 5), (1, 5)], 2, 2, .agg #[.int .u8 0, .int .u8 0]⟩ := ⟨⟨_, Tryd.underlying99, by kernel_rfl⟩, by kernel_rfl⟩
theorem tab100 : RowOk Tryd.prog ⟨100, .array 16 99, 32, 32, .agg #[.int .u8 0, .int .u8 0, .int .u8 0, .int .u8 0, .int .u8 0, .int .u8 0, .int .u8 0, .int .u8 0, .int .u8 0, .int .u8 0, .int .u8 0, .int .u8 0, .int .u8 0, .int .u8 0, .int .u8 0, .int .u8 0, .int .u8 0, .int .u8 0, .int .u8 0, .int .u8 0, .int .u8 0, .int .u8 0, .int .u8 0, .int .u8 0, .int .u8 0, .int .u8 0, .int .u8 0, .int .u8 0, .int .u8 0, .int .u8 0, .int .u8 0, .int .u8 0]⟩ := ⟨Tryd.underlying100, by kernel_rfl⟩
theorem tab101 : RowOk Tryd.prog ⟨101, .fn, 1, 8, .nilFunc⟩ := ⟨⟨_, _, _, Tryd.underlying101⟩, by kernel_rfl⟩
theorem tab102 : RowOk Tryd.prog ⟨102, .array 20 42, 20, 160, .agg #[.int .u64 0, .int .u64 0, .int .u64 0, .int .u64 0, .int .u64 0, .int .u64 0, .int .u64 0, .int .u64 0, .int .u64 0, .int .u64 0, .int .u64 0, .int .u64 0, .int .u64 0, .int .u64 0, .int .u64 0, .int .u64 0, .int .u64 0, .int .u64 0, .int .u64 0, .int .u64 0]⟩ := ⟨Tryd.underlying102, by kernel_rfl⟩
theorem tab103 : RowOk Tryd.prog ⟨103, .int .u32, 1, 4, .int .u32 0⟩ := ⟨Tryd.underlying103, by kernel_rfl⟩
theorem tab104 : RowOk Tryd.prog ⟨104, .array 65 5, 65, 65, .agg #[.int .u8 0, .int .u8 0, .int .u8 0, .int .u8 0, .int .u8 0, .int .u8 0, .int .u8 0, .int .u8 0, .int .u8 0, .int .u8 0, .int .u8 0, .int .u8 0, .int .u8 0, .int .u8 0, .int .u8 0, .int .u8 0, .int .u8 0, .int .u8 0, .int .u8 0, .int .u8 0, .int .u8 0, .int .u8 0, .int .u8 0, .int .u8 0, .int .u8 0, .int .u8 0, .int .u8 0, .int .u8 0, .int .u8 0, .int .u8 0, .int .u8 0, .int .u8 0, .int .u8 0, .int .u8 0, .int .u8 0, .int .u8 0, .int .u8 0, .int .u8 0, .int .u8 0, .int .u8 0, .int .u8 0, .int .u8 0, .int .u8 0, .int .u8 0, .int .u8 0, .int .u8 0, .int .u8 0, .int .u8 0, .int .u8 0, .int .u8 0, .int .u8 0, .int .u8 0, .int .u8 0, .int .u8 0, .int .u8 0, .int .u8 0, .int .u8 0, .int .u8 0, .int .u8 0, .int .u8 0, .int .u8 0, .int .u8 0, .int .u8 0, .int .u8 0, .int .u8 0]⟩ := ⟨Tryd.underlying104, by kernel_rfl⟩
theorem tab105 : RowOk Tryd.prog ⟨105, .fn, 1, 8, .nilFunc⟩ := ⟨⟨_, _, _, Tryd.underlying105⟩, by kernel_rfl⟩
theorem tab107 : RowOk Tryd.prog ⟨107, .fn, 1, 8, .nilFunc⟩ := ⟨⟨_, _, _, Tryd.underlying107⟩, by kernel_rfl⟩
theorem tab108 : RowOk Tryd.prog ⟨108, .fn, 1, 8, .nilFunc⟩ := ⟨⟨_, _, _, Tryd.underlying108⟩, by kernel_rfl⟩
theorem tab109 : RowOk Tryd.prog ⟨109, .struct [(0, 9), (1, 9), (2, 49)], 3, 48, .agg #[.string ⟨#[]⟩, .string ⟨#[]⟩, .nilIface]⟩ := ⟨⟨_, Tryd.underlying109, by kernel_rfl⟩, by kernel_rfl⟩
theorem tab110 : RowOk Tryd.prog ⟨110, .struct [(0, 9), (1, 9), (2, 49)], 3, 48, .agg #[.string ⟨#[]⟩, .string ⟨#[]⟩, .nilIface]⟩ := ⟨⟨_, Tryd.underlying110, by kernel_rfl⟩, by kernel_rfl⟩
theorem tab111 : RowOk Tryd.prog ⟨111, .fn, 1, 8, .nilFunc⟩ := ⟨⟨_, _, _, Tryd.underlying111⟩, by kernel_rfl⟩
theorem tab113 : RowOk Tryd.prog ⟨113, .fn, 1, 8, .nilFunc⟩ := ⟨⟨_, _, _, Tryd.underlying113⟩, by kernel_rfl⟩
theorem tab114 : RowOk Tryd.prog ⟨114, .fn, 1, 8, .nilFunc⟩ := ⟨⟨_, _, _, Tryd.underlying114⟩, by kernel_rfl⟩
theorem tab115 : RowOk Tryd.prog ⟨115, .ptr 117, 1, 8, .pointer none⟩ := ⟨Tryd.underlying115, by kernel_rfl⟩
theorem tab116 : RowOk Tryd.prog ⟨116, .struct [(0, 9)], 1, 16, .agg #[.string ⟨#[]⟩]⟩ := ⟨⟨_, Tryd.underlying116, by kernel_rfl⟩, by kernel_rfl⟩
theorem tab117 : RowOk Tryd.prog ⟨117, .struct [(0, 9)], 1, 16, .agg #[.string ⟨#[]⟩]⟩ := ⟨⟨_, Tryd.underlying117, by kernel_rfl⟩, by kernel_rfl⟩
theorem tab118 : RowOk Tryd.prog ⟨118, .array 32 5, 32, 32, .agg #[.int .u8 0, .int .u8 0, .int .u8 0, .int .u8 0, .int .u8 0, .int .u8 0, .int .u8 0, .int .u8 0, .int .u8 0, .int .u8 0, .int .u8 0, .int .u8 0, .int .u8 0, .int .u8 0, .int .u8 0, .int .u8 0, .int .u8 0, .int .u8 0, .int .u8 0, .int .u8 0, .int .u8 0, .int .u8 0, .int .u8 0, .int .u8 0, .int .u8 0, .int .u8 0, .int .u8 0, .int .u8 0, .int .u8 0, .int .u8 0, .int .u8 0, .int .u8 0]⟩ := ⟨Tryd.underlying118, by kernel_rfl⟩
theorem tab119 : RowOk Tryd.prog ⟨119, .array 64 5, 64, 64, .agg #[.int .u8 0, .int .u8 0, .int .u8 0, .int .u8 0, .int .u8 0, .int .u8 0, .int .u8 0, .int .u8 0, .int .u8 0, .int .u8 0, .int .u8 0, .int .u8 0, .int .u8 0, .int .u8 0, .int .u8 0, .int .u8 0, .int .u8 0, .int .u8 0, .int .u8 0, .int .u8 0, .int .u8 0, .int .u8 0, .int .u8 0, .int .u8 0, .int .u8 0, .int .u8 0, .int .u8 0, .int .u8 0, .int .u8 0, .int .u8 0, .int .u8 0, .int .u8 0, .int .u8 0, .int .u8 0, .int .u8 0, .int .u8 0, .int .u8 0, .int .u8 0, .int .u8 0, .int .u8 0, .int .u8 0, .int .u8 0, .int .u8 0, .int .u8 0, .int .u8 0, .int .u8 0, .int .u8 0, .int .u8 0, .int .u8 0, .int .u8 0, .int .u8 0, .int .u8 0, .int .u8 0, .int .u8 0, .int .u8 0, .int .u8 0, .int .u8 0, .int .u8 0, .int .u8 0, .int .u8 0, .int .u8 0, .int .u8 0, .int .u8 0, .int .u8 0]⟩ := ⟨Tryd.underlying119, by kernel_rfl⟩
theorem tab120 : RowOk Tryd.prog ⟨120, .struct [(0, 17), (1, 17), (2, 17), (3, 9)], 4, 40, .agg #[.pointer none, .pointer none, .pointer none, .string ⟨#[]⟩]⟩ := ⟨⟨_, Tryd.underlying120, by kernel_rfl⟩, by kernel_rfl⟩
theorem tab121 : RowOk Tryd.prog ⟨121, .struct [(0, 17), (1, 17), (2, 17), (3, 9)], 4, 40, .agg #[.pointer none, .pointer none, .pointer none, .string ⟨#[]⟩]⟩ := ⟨⟨_, Tryd.underlying121, by kernel_rfl⟩, by kernel_rfl⟩
theorem tab122 : RowOk Tryd.prog ⟨122, .array 0 16, 0, 0, .agg #[]⟩ := ⟨Tryd.underlying122, by kernel_rfl⟩
theorem tab123 : RowOk Tryd.prog ⟨123, .struct [(0, 122)], 0, 0, .agg #[]⟩ := ⟨⟨_, Tryd.underlying123, by kernel_rfl⟩, by kernel_rfl⟩
theorem tab124 : RowOk Tryd.prog ⟨124, .struct [(0, 122)], 0, 0, .agg #[]⟩ := ⟨⟨_, Tryd.underlying124, by kernel_rfl⟩, by kernel_rfl⟩
theorem tab125 : RowOk Tryd.prog ⟨125, .int .u8, 1, 1, .int .u8 0⟩ := ⟨Tryd.underlying125, by kernel_rfl⟩
theorem tab126 : RowOk Tryd.prog ⟨126, .int .u8, 1, 1, .int .u8 0⟩ := ⟨Tryd.underlying126, by kernel_rfl⟩
theorem tab127 : RowOk Tryd.prog ⟨127, .fn, 1, 8, .nilFunc⟩ := ⟨⟨_, _, _, Tryd.underlying127⟩, by kernel_rfl⟩
theorem tab128 : RowOk Tryd.prog ⟨128, .int .i32, 1, 4, .int .i32 0⟩ := ⟨Tryd.underlying128, by kernel_rfl⟩
theorem tab129 : RowOk Tryd.prog ⟨129, .int .i32, 1, 4, .int .i32 0⟩ := ⟨Tryd.underlying129, by kernel_rfl⟩
theorem tab130 : RowOk Tryd.prog ⟨130, .struct [(0, 12), (1, 12), (2, 103), (3, 125), (4, 5), (5, 5), (6, 126), (7, 127), (8, 71), (9, 128), (10, 129)], 11, 48, .agg #[.int .u64 0, .int .u64 0, .int .u32 0, .int .u8 0, .int .u8 0, .int .u8 0, .int .u8 0, .nilFunc, .pointer none, .int .i32 0, .int .i32 0]⟩ := ⟨⟨_, Tryd.underlying130, by kernel_rfl⟩, by kernel_rfl⟩
theorem tab131 : RowOk Tryd.prog ⟨131, .struct [(0, 12), (1, 12), (2, 103), (3, 125), (4, 5), (5, 5), (6, 126), (7, 127), (8, 71), (9, 128), (10, 129)], 11, 48, .agg #[.int .u64 0, .int .u64 0, .int .u32 0, .int .u8 0, .int .u8 0, .int .u8 0, .int .u8 0, .nilFunc, .pointer none, .int .i32 0, .int .i32 0]⟩ := ⟨⟨_, Tryd.underlying131, by kernel_rfl⟩, by kernel_rfl⟩
theorem tabOk : TabOk Tryd.prog tab :=
  .cons tab1 <|
  .cons tab2 <|
  .cons tab3 <|
  .cons tab4 <|
  .cons tab5 <|
  .cons tab6 <|
  .cons tab7 <|
  .cons tab8 <|
  .cons tab9 <|
  .cons tab10 <|
  .cons tab11 <|
  .cons tab12 <|
  .cons tab13 <|
  .cons tab14 <|
  .cons tab15 <|
  .cons tab16 <|
  .cons tab17 <|
  .cons tab18 <|
  .cons tab19 <|
  .cons tab20 <|
  .cons tab21 <|
  .cons tab22 <|
  .cons tab23 <|
  .cons tab24 <|
  .cons tab25 <|
  .cons tab26 <|
  .cons tab27 <|
  .cons tab28 <|
  .cons tab29 <|
  .cons tab31 <|
  .cons tab32 <|
  .cons tab33 <|
  .cons tab34 <|
  .cons tab35 <|
  .cons tab36 <|
  .cons tab37 <|
  .cons tab38 <|
  .cons tab39 <|
  .cons tab40 <|
  .cons tab41 <|
  .cons tab42 <|
  .cons tab43 <|
  .cons tab44 <|
  .cons tab45 <|
  .cons tab46 <|
  .cons tab47 <|
  .cons tab48 <|
  .cons tab49 <|
  .cons tab50 <|
  .cons tab51 <|
  .cons tab53 <|
  .cons tab54 <|
  .cons tab55 <|
  .cons tab56 <|
  .cons tab57 <|
  .cons tab59 <|
  .cons tab61 <|
  .cons tab62 <|
  .cons tab63 <|
  .cons tab65 <|
  .cons tab66 <|
  .cons tab67 <|
  .cons tab68 <|
  .cons tab69 <|
  .cons tab70 <|
  .cons tab71 <|
  .cons tab72 <|
  .cons tab73 <|
  .cons tab74 <|
  .cons tab75 <|
  .cons tab76 <|
  .cons tab78 <|
  .cons tab79 <|
  .cons tab81 <|
  .cons tab82 <|
  .cons tab83 <|
  .cons tab84 <|
  .cons tab85 <|
  .cons tab86 <|
  .cons tab88 <|
  .cons tab89 <|
  .cons tab91 <|
  .cons tab92 <|
  .cons tab93 <|
  .cons tab94 <|
  .cons tab95 <|
  .cons tab96 <|
  .cons tab98 <|
  .cons tab99 <|
  .cons tab100 <|
  .cons tab101 <|
  .cons tab102 <|
  .cons tab103 <|
  .cons tab104 <|
  .cons tab105 <|
  .cons tab107 <|
  .cons tab108 <|
  .cons tab109 <|
  .cons tab110 <|
  .cons tab111 <|
  .cons tab113 <|
  .cons tab114 <|
  .cons tab115 <|
  .cons tab116 <|
  .cons tab117 <|
  .cons tab118 <|
  .cons tab119 <|
  .cons tab120 <|
  .cons tab121 <|
  .cons tab122 <|
  .cons tab123 <|
  .cons tab124 <|
  .cons tab125 <|
  .cons tab126 <|
  .cons tab127 <|
  .cons tab128 <|
  .cons tab129 <|
  .cons tab130 <|
  .cons tab131 <| .nil
theorem mixed : Tryd.prog.follows .mixedOrders = true := by kernel_rfl
end Go.Proofs.YtdiacjlnedccpaaDoor
