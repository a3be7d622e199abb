/- Tables, printed by a program: each function with its plans; closed facts on types. -/
import Derived.Test.YtlhmbcmkpafjoaaDoorTab0
import Derived.Test.YtlhmbcmkpafjoaaDoorTab1
import Derived.Test.YtlhmbcmkpafjoaaDoorTab2
import Derived.Test.YtlhmbcmkpafjoaaDoorTab3
import Derived.Test.YtlhmbcmkpafjoaaDoorProg
import Derived.Test.YtlhmbcmkpafjoaaDoorWkF
import Derived.KernelRfl
namespace Go.Proofs.YtlhmbcmkpafjoaaDoor
open Go Go.Wk
theorem mixed : Tryd.prog.follows .mixedOrders = true := by kernel_rfl
instance agg_23 : Agg Tryd.prog 23 6 := ⟨by kernel_rfl⟩
instance zer_23 : Zer Tryd.prog 23 (.agg #[.int .i64 0, .int .i64 0, .int .i64 0, .int .i64 0, .int .i64 0, .int .i64 0]) := ⟨by kernel_rfl⟩
instance siz_23 : Siz Tryd.prog 23 6 := ⟨by kernel_rfl⟩
instance fld_23_1 : Fld Tryd.prog 23 1 1 := ⟨by kernel_rfl⟩
instance scal_3 : Scal Tryd.prog 3 := ⟨by kernel_rfl⟩
instance fld_23_2 : Fld Tryd.prog 23 2 2 := ⟨by kernel_rfl⟩
instance siz_3 : Siz Tryd.prog 3 1 := ⟨by kernel_rfl⟩
instance fld_23_3 : Fld Tryd.prog 23 3 3 := ⟨by kernel_rfl⟩
instance fld_23_4 : Fld Tryd.prog 23 4 4 := ⟨by kernel_rfl⟩
instance fld_23_5 : Fld Tryd.prog 23 5 5 := ⟨by kernel_rfl⟩
instance build_23 : BuildT Tryd.prog 23 [(0, 1), (1, 1), (2, 1), (3, 1), (4, 1), (5, 1)] [.int .i64 0, .int .i64 0, .int .i64 0, .int .i64 0, .int .i64 0, .int .i64 0] := ⟨by kernel_rfl, by kernel_rfl⟩
instance bool_4 : BoolT Tryd.prog 4 := ⟨Tryd.underlying4⟩
instance build_43 : BuildT Tryd.prog 43 [(0, 1), (1, 1)] [.slice none 0 0, .bool false] := ⟨by kernel_rfl, by kernel_rfl⟩
instance agg_43 : Agg Tryd.prog 43 2 := ⟨by kernel_rfl⟩
instance fld_23_0 : Fld Tryd.prog 23 0 0 := ⟨by kernel_rfl⟩
instance fld_43_1 : Fld Tryd.prog 43 1 1 := ⟨by kernel_rfl⟩
instance scal_4 : Scal Tryd.prog 4 := ⟨by kernel_rfl⟩
instance fld_43_0 : Fld Tryd.prog 43 0 0 := ⟨by kernel_rfl⟩
instance scal_40 : Scal Tryd.prog 40 := ⟨by kernel_rfl⟩
instance slc_40 : Slc Tryd.prog 40 1 := ⟨by kernel_rfl⟩
instance slct_40 : SlcT Tryd.prog 40 9 16 1 [.string ⟨#[]⟩] := slcTB_spec (by kernel_rfl)
instance scal_9 : Scal Tryd.prog 9 := ⟨by kernel_rfl⟩
instance slc_52 : Slc Tryd.prog 52 1 := ⟨by kernel_rfl⟩
instance slct_52 : SlcT Tryd.prog 52 3 8 1 [.int .i64 0] := slcTB_spec (by kernel_rfl)
instance zer_58 : Zer Tryd.prog 58 (.agg #[.string ⟨#[]⟩, .int .i64 0, .string ⟨#[]⟩, .int .i64 0, .string ⟨#[]⟩, .int .i64 0, .string ⟨#[]⟩, .int .i64 0, .string ⟨#[]⟩, .int .i64 0, .string ⟨#[]⟩, .int .i64 0, .string ⟨#[]⟩, .int .i64 0, .string ⟨#[]⟩, .int .i64 0, .string ⟨#[]⟩, .int .i64 0, .string ⟨#[]⟩, .int .i64 0, .string ⟨#[]⟩, .int .i64 0, .string ⟨#[]⟩, .int .i64 0, .string ⟨#[]⟩, .int .i64 0, .string ⟨#[]⟩, .int .i64 0, .string ⟨#[]⟩, .int .i64 0, .string ⟨#[]⟩, .int .i64 0, .string ⟨#[]⟩, .int .i64 0, .string ⟨#[]⟩, .int .i64 0, .string ⟨#[]⟩, .int .i64 0, .string ⟨#[]⟩, .int .i64 0, .string ⟨#[]⟩, .int .i64 0, .string ⟨#[]⟩, .int .i64 0, .string ⟨#[]⟩, .int .i64 0, .string ⟨#[]⟩, .int .i64 0, .string ⟨#[]⟩, .int .i64 0, .string ⟨#[]⟩, .int .i64 0, .string ⟨#[]⟩, .int .i64 0, .string ⟨#[]⟩, .int .i64 0]) := ⟨by kernel_rfl⟩
instance agg_58 : Agg Tryd.prog 58 56 := ⟨by kernel_rfl⟩
instance siz_58 : Siz Tryd.prog 58 56 := ⟨by kernel_rfl⟩
instance siz_4 : Siz Tryd.prog 4 1 := ⟨by kernel_rfl⟩
instance zer_46 : Zer Tryd.prog 46 (.agg #[.pointer none, .pointer none, .pointer none, .pointer none]) := ⟨by kernel_rfl⟩
instance agg_46 : Agg Tryd.prog 46 4 := ⟨by kernel_rfl⟩
instance siz_46 : Siz Tryd.prog 46 4 := ⟨by kernel_rfl⟩
instance zer_70 : Zer Tryd.prog 70 (.agg #[.pointer none, .slice none 0 0]) := ⟨by kernel_rfl⟩
instance zer_55 : Zer Tryd.prog 55 (.agg #[.string ⟨#[]⟩, .int .i64 0]) := ⟨by kernel_rfl⟩
instance build_55 : BuildT Tryd.prog 55 [(0, 1), (1, 1)] [.string ⟨#[]⟩, .int .i64 0] := ⟨by kernel_rfl, by kernel_rfl⟩
instance agg_55 : Agg Tryd.prog 55 2 := ⟨by kernel_rfl⟩
instance siz_55 : Siz Tryd.prog 55 2 := ⟨by kernel_rfl⟩
instance slc_61 : Slc Tryd.prog 61 2 := ⟨by kernel_rfl⟩
instance slct_61 : SlcT Tryd.prog 61 55 24 2 [.string ⟨#[]⟩, .int .i64 0] := slcTB_spec (by kernel_rfl)
instance fld_55_0 : Fld Tryd.prog 55 0 0 := ⟨by kernel_rfl⟩
instance siz_9 : Siz Tryd.prog 9 1 := ⟨by kernel_rfl⟩
instance siz_40 : Siz Tryd.prog 40 1 := ⟨by kernel_rfl⟩
instance fld_70_1 : Fld Tryd.prog 70 1 1 := ⟨by kernel_rfl⟩
instance scal_68 : Scal Tryd.prog 68 := ⟨by kernel_rfl⟩
instance slc_68 : Slc Tryd.prog 68 1 := ⟨by kernel_rfl⟩
instance slct_68 : SlcT Tryd.prog 68 5 1 1 [.int .u8 0] := slcTB_spec (by kernel_rfl)
instance siz_68 : Siz Tryd.prog 68 1 := ⟨by kernel_rfl⟩
instance fld_70_0 : Fld Tryd.prog 70 0 0 := ⟨by kernel_rfl⟩
instance scal_67 : Scal Tryd.prog 67 := ⟨by kernel_rfl⟩
instance ptr_67 : PtrT Tryd.prog 67 := ⟨_, Tryd.underlying67⟩
instance siz_67 : Siz Tryd.prog 67 1 := ⟨by kernel_rfl⟩
instance scal_5 : Scal Tryd.prog 5 := ⟨by kernel_rfl⟩
instance agg_91 : Agg Tryd.prog 91 2 := ⟨by kernel_rfl⟩
instance zer_91 : Zer Tryd.prog 91 (.agg #[.int .u8 0, .int .u8 0]) := ⟨by kernel_rfl⟩
instance siz_91 : Siz Tryd.prog 91 2 := ⟨by kernel_rfl⟩
instance fld_91_0 : Fld Tryd.prog 91 0 0 := ⟨by kernel_rfl⟩
instance fld_91_1 : Fld Tryd.prog 91 1 1 := ⟨by kernel_rfl⟩
instance build_91 : BuildT Tryd.prog 91 [(0, 1), (1, 1)] [.int .u8 0, .int .u8 0] := ⟨by kernel_rfl, by kernel_rfl⟩
instance agg_92 : Agg Tryd.prog 92 32 := ⟨by kernel_rfl⟩
instance siz_92 : Siz Tryd.prog 92 32 := ⟨by kernel_rfl⟩
end Go.Proofs.YtlhmbcmkpafjoaaDoor
