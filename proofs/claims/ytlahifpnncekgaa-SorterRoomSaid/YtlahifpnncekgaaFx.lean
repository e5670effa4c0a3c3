/- Closed facts of the program: written by a program (facts.py). -/
import Derived.Test.YtlahifpnncekgaaRows
import Derived.Test.YtlahifpnncekgaaSxI
namespace Go.Proofs.Ytlahifpnncekgaa
open Go Go.Sx

instance : TU Try.prog 3 (.int .i64) := ⟨Try.underlying3⟩
instance : TS Try.prog 3 1 := ⟨fun w => by simp only [sizeOf, Sem.run_bind, Try.typeInfo3]; rfl⟩
instance : TBy Try.prog 3 8 := ⟨fun w => ⟨_, Try.typeInfo3 w, rfl⟩⟩
instance : TA Try.prog 3 false := ⟨Try.isAgg3⟩
instance : TZ Try.prog 3 (.int .i64 (0)) [(.int .i64 (0))] := ⟨Try.zeroValue3, rfl⟩
instance : TU Try.prog 4 .bool := ⟨Try.underlying4⟩
instance : TS Try.prog 4 1 := ⟨fun w => by simp only [sizeOf, Sem.run_bind, Try.typeInfo4]; rfl⟩
instance : TBy Try.prog 4 1 := ⟨fun w => ⟨_, Try.typeInfo4 w, rfl⟩⟩
instance : TA Try.prog 4 false := ⟨Try.isAgg4⟩
instance : TZ Try.prog 4 (.bool false) [(.bool false)] := ⟨Try.zeroValue4, rfl⟩
instance : TU Try.prog 5 (.int .u8) := ⟨Try.underlying5⟩
instance : TS Try.prog 5 1 := ⟨fun w => by simp only [sizeOf, Sem.run_bind, Try.typeInfo5]; rfl⟩
instance : TBy Try.prog 5 1 := ⟨fun w => ⟨_, Try.typeInfo5 w, rfl⟩⟩
instance : TA Try.prog 5 false := ⟨Try.isAgg5⟩
instance : TZ Try.prog 5 (.int .u8 (0)) [(.int .u8 (0))] := ⟨Try.zeroValue5, rfl⟩
instance : TU Try.prog 9 .string := ⟨Try.underlying9⟩
instance : TS Try.prog 9 1 := ⟨fun w => by simp only [sizeOf, Sem.run_bind, Try.typeInfo9]; rfl⟩
instance : TBy Try.prog 9 16 := ⟨fun w => ⟨_, Try.typeInfo9 w, rfl⟩⟩
instance : TA Try.prog 9 false := ⟨Try.isAgg9⟩
instance : TZ Try.prog 9 (.string ⟨#[]⟩) [(.string ⟨#[]⟩)] := ⟨Try.zeroValue9, rfl⟩
instance : TU Try.prog 22 (.slice 5) := ⟨Try.underlying22⟩
instance : TS Try.prog 22 1 := ⟨fun w => by simp only [sizeOf, Sem.run_bind, Try.typeInfo22]; rfl⟩
instance : TBy Try.prog 22 24 := ⟨fun w => ⟨_, Try.typeInfo22 w, rfl⟩⟩
instance : TA Try.prog 22 false := ⟨Try.isAgg22⟩
instance : TZ Try.prog 22 (.slice none 0 0) [(.slice none 0 0)] := ⟨Try.zeroValue22, rfl⟩
instance : TU Try.prog 23 (.slice 3) := ⟨Try.underlying23⟩
instance : TS Try.prog 23 1 := ⟨fun w => by simp only [sizeOf, Sem.run_bind, Try.typeInfo23]; rfl⟩
instance : TBy Try.prog 23 24 := ⟨fun w => ⟨_, Try.typeInfo23 w, rfl⟩⟩
instance : TA Try.prog 23 false := ⟨Try.isAgg23⟩
instance : TZ Try.prog 23 (.slice none 0 0) [(.slice none 0 0)] := ⟨Try.zeroValue23, rfl⟩
instance : TU Try.prog 25 (.slice 38) := ⟨Try.underlying25⟩
instance : TS Try.prog 25 1 := ⟨fun w => by simp only [sizeOf, Sem.run_bind, Try.typeInfo25]; rfl⟩
instance : TBy Try.prog 25 24 := ⟨fun w => ⟨_, Try.typeInfo25 w, rfl⟩⟩
instance : TA Try.prog 25 false := ⟨Try.isAgg25⟩
instance : TZ Try.prog 25 (.slice none 0 0) [(.slice none 0 0)] := ⟨Try.zeroValue25, rfl⟩
instance : TU Try.prog 27 (.slice 23) := ⟨Try.underlying27⟩
instance : TS Try.prog 27 1 := ⟨fun w => by simp only [sizeOf, Sem.run_bind, Try.typeInfo27]; rfl⟩
instance : TBy Try.prog 27 24 := ⟨fun w => ⟨_, Try.typeInfo27 w, rfl⟩⟩
instance : TA Try.prog 27 false := ⟨Try.isAgg27⟩
instance : TZ Try.prog 27 (.slice none 0 0) [(.slice none 0 0)] := ⟨Try.zeroValue27, rfl⟩
instance : TU Try.prog 28 (.slice 43) := ⟨Try.underlying28⟩
instance : TS Try.prog 28 1 := ⟨fun w => by simp only [sizeOf, Sem.run_bind, Try.typeInfo28]; rfl⟩
instance : TBy Try.prog 28 24 := ⟨fun w => ⟨_, Try.typeInfo28 w, rfl⟩⟩
instance : TA Try.prog 28 false := ⟨Try.isAgg28⟩
instance : TZ Try.prog 28 (.slice none 0 0) [(.slice none 0 0)] := ⟨Try.zeroValue28, rfl⟩
instance : TS Try.prog 30 5 := ⟨fun w => by simp only [sizeOf, Sem.run_bind, Try.typeInfo30]; rfl⟩
instance : TBy Try.prog 30 120 := ⟨fun w => ⟨_, Try.typeInfo30 w, rfl⟩⟩
instance : TA Try.prog 30 true := ⟨Try.isAgg30⟩
instance : TZ Try.prog 30 (.agg #[(.slice none 0 0), (.slice none 0 0), (.slice none 0 0), (.slice none 0 0), (.slice none 0 0)]) [(.slice none 0 0), (.slice none 0 0), (.slice none 0 0), (.slice none 0 0), (.slice none 0 0)] := ⟨Try.zeroValue30, rfl⟩
instance : TU Try.prog 31 (.int .i64) := ⟨Try.underlying31⟩
instance : TS Try.prog 31 1 := ⟨fun w => by simp only [sizeOf, Sem.run_bind, Try.typeInfo31]; rfl⟩
instance : TBy Try.prog 31 8 := ⟨fun w => ⟨_, Try.typeInfo31 w, rfl⟩⟩
instance : TA Try.prog 31 false := ⟨Try.isAgg31⟩
instance : TZ Try.prog 31 (.int .i64 (0)) [(.int .i64 (0))] := ⟨Try.zeroValue31, rfl⟩
instance : TU Try.prog 34 (.map 3 3) := ⟨Try.underlying34⟩
instance : TS Try.prog 34 1 := ⟨fun w => by simp only [sizeOf, Sem.run_bind, Try.typeInfo34]; rfl⟩
instance : TBy Try.prog 34 8 := ⟨fun w => ⟨_, Try.typeInfo34 w, rfl⟩⟩
instance : TA Try.prog 34 false := ⟨Try.isAgg34⟩
instance : TZ Try.prog 34 (.map none) [(.map none)] := ⟨Try.zeroValue34, rfl⟩
instance : TS Try.prog 38 2 := ⟨fun w => by simp only [sizeOf, Sem.run_bind, Try.typeInfo38]; rfl⟩
instance : TBy Try.prog 38 16 := ⟨fun w => ⟨_, Try.typeInfo38 w, rfl⟩⟩
instance : TA Try.prog 38 true := ⟨Try.isAgg38⟩
instance : TZ Try.prog 38 (.agg #[(.int .i64 (0)), (.int .i64 (0))]) [(.int .i64 (0)), (.int .i64 (0))] := ⟨Try.zeroValue38, rfl⟩
instance : TS Try.prog 43 3 := ⟨fun w => by simp only [sizeOf, Sem.run_bind, Try.typeInfo43]; rfl⟩
instance : TBy Try.prog 43 24 := ⟨fun w => ⟨_, Try.typeInfo43 w, rfl⟩⟩
instance : TA Try.prog 43 true := ⟨Try.isAgg43⟩
instance : TZ Try.prog 43 (.agg #[(.int .u8 (0)), (.int .i64 (0)), (.int .i64 (0))]) [(.int .u8 (0)), (.int .i64 (0)), (.int .i64 (0))] := ⟨Try.zeroValue43, rfl⟩
instance : TS Try.prog 47 5 := ⟨fun w => by simp only [sizeOf, Sem.run_bind, Try.typeInfo47]; rfl⟩
instance : TBy Try.prog 47 104 := ⟨fun w => ⟨_, Try.typeInfo47 w, rfl⟩⟩
instance : TA Try.prog 47 true := ⟨Try.isAgg47⟩
instance : TZ Try.prog 47 (.agg #[(.slice none 0 0), (.slice none 0 0), (.slice none 0 0), (.slice none 0 0), (.int .u8 (0))]) [(.slice none 0 0), (.slice none 0 0), (.slice none 0 0), (.slice none 0 0), (.int .u8 (0))] := ⟨Try.zeroValue47, rfl⟩
instance : TU Try.prog 48 (.slice 64) := ⟨Try.underlying48⟩
instance : TS Try.prog 48 1 := ⟨fun w => by simp only [sizeOf, Sem.run_bind, Try.typeInfo48]; rfl⟩
instance : TBy Try.prog 48 24 := ⟨fun w => ⟨_, Try.typeInfo48 w, rfl⟩⟩
instance : TA Try.prog 48 false := ⟨Try.isAgg48⟩
instance : TZ Try.prog 48 (.slice none 0 0) [(.slice none 0 0)] := ⟨Try.zeroValue48, rfl⟩
instance : TS Try.prog 50 4 := ⟨fun w => by simp only [sizeOf, Sem.run_bind, Try.typeInfo50]; rfl⟩
instance : TBy Try.prog 50 96 := ⟨fun w => ⟨_, Try.typeInfo50 w, rfl⟩⟩
instance : TA Try.prog 50 true := ⟨Try.isAgg50⟩
instance : TZ Try.prog 50 (.agg #[(.slice none 0 0), (.slice none 0 0), (.slice none 0 0), (.slice none 0 0)]) [(.slice none 0 0), (.slice none 0 0), (.slice none 0 0), (.slice none 0 0)] := ⟨Try.zeroValue50, rfl⟩
instance : TU Try.prog 51 (.slice 59) := ⟨Try.underlying51⟩
instance : TS Try.prog 51 1 := ⟨fun w => by simp only [sizeOf, Sem.run_bind, Try.typeInfo51]; rfl⟩
instance : TBy Try.prog 51 24 := ⟨fun w => ⟨_, Try.typeInfo51 w, rfl⟩⟩
instance : TA Try.prog 51 false := ⟨Try.isAgg51⟩
instance : TZ Try.prog 51 (.slice none 0 0) [(.slice none 0 0)] := ⟨Try.zeroValue51, rfl⟩
instance : TS Try.prog 55 11 := ⟨fun w => by simp only [sizeOf, Sem.run_bind, Try.typeInfo55]; rfl⟩
instance : TBy Try.prog 55 264 := ⟨fun w => ⟨_, Try.typeInfo55 w, rfl⟩⟩
instance : TA Try.prog 55 true := ⟨Try.isAgg55⟩
instance : TZ Try.prog 55 (.agg #[(.slice none 0 0), (.slice none 0 0), (.slice none 0 0), (.slice none 0 0), (.slice none 0 0), (.slice none 0 0), (.slice none 0 0), (.slice none 0 0), (.slice none 0 0), (.slice none 0 0), (.slice none 0 0)]) [(.slice none 0 0), (.slice none 0 0), (.slice none 0 0), (.slice none 0 0), (.slice none 0 0), (.slice none 0 0), (.slice none 0 0), (.slice none 0 0), (.slice none 0 0), (.slice none 0 0), (.slice none 0 0)] := ⟨Try.zeroValue55, rfl⟩
instance : TS Try.prog 59 4 := ⟨fun w => by simp only [sizeOf, Sem.run_bind, Try.typeInfo59]; rfl⟩
instance : TBy Try.prog 59 24 := ⟨fun w => ⟨_, Try.typeInfo59 w, rfl⟩⟩
instance : TA Try.prog 59 true := ⟨Try.isAgg59⟩
instance : TZ Try.prog 59 (.agg #[(.int .i64 (0)), (.int .i64 (0)), (.bool false), (.bool false)]) [(.int .i64 (0)), (.int .i64 (0)), (.bool false), (.bool false)] := ⟨Try.zeroValue59, rfl⟩
instance : TS Try.prog 64 4 := ⟨fun w => by simp only [sizeOf, Sem.run_bind, Try.typeInfo64]; rfl⟩
instance : TBy Try.prog 64 32 := ⟨fun w => ⟨_, Try.typeInfo64 w, rfl⟩⟩
instance : TA Try.prog 64 true := ⟨Try.isAgg64⟩
instance : TZ Try.prog 64 (.agg #[(.int .i64 (0)), (.int .i64 (0)), (.int .i64 (0)), (.int .i64 (0))]) [(.int .i64 (0)), (.int .i64 (0)), (.int .i64 (0)), (.int .i64 (0))] := ⟨Try.zeroValue64, rfl⟩
instance : TS Try.prog 69 3 := ⟨fun w => by simp only [sizeOf, Sem.run_bind, Try.typeInfo69]; rfl⟩
instance : TBy Try.prog 69 72 := ⟨fun w => ⟨_, Try.typeInfo69 w, rfl⟩⟩
instance : TA Try.prog 69 true := ⟨Try.isAgg69⟩
instance : TZ Try.prog 69 (.agg #[(.slice none 0 0), (.slice none 0 0), (.slice none 0 0)]) [(.slice none 0 0), (.slice none 0 0), (.slice none 0 0)] := ⟨Try.zeroValue69, rfl⟩
instance : TU Try.prog 77 (.slice 79) := ⟨Try.underlying77⟩
instance : TS Try.prog 77 1 := ⟨fun w => by simp only [sizeOf, Sem.run_bind, Try.typeInfo77]; rfl⟩
instance : TBy Try.prog 77 24 := ⟨fun w => ⟨_, Try.typeInfo77 w, rfl⟩⟩
instance : TA Try.prog 77 false := ⟨Try.isAgg77⟩
instance : TZ Try.prog 77 (.slice none 0 0) [(.slice none 0 0)] := ⟨Try.zeroValue77, rfl⟩
instance : TS Try.prog 79 2 := ⟨fun w => by simp only [sizeOf, Sem.run_bind, Try.typeInfo79]; rfl⟩
instance : TBy Try.prog 79 16 := ⟨fun w => ⟨_, Try.typeInfo79 w, rfl⟩⟩
instance : TA Try.prog 79 true := ⟨Try.isAgg79⟩
instance : TZ Try.prog 79 (.agg #[(.int .i64 (0)), (.int .i64 (0))]) [(.int .i64 (0)), (.int .i64 (0))] := ⟨Try.zeroValue79, rfl⟩
instance : TU Try.prog 83 (.map 3 59) := ⟨Try.underlying83⟩
instance : TS Try.prog 83 1 := ⟨fun w => by simp only [sizeOf, Sem.run_bind, Try.typeInfo83]; rfl⟩
instance : TBy Try.prog 83 8 := ⟨fun w => ⟨_, Try.typeInfo83 w, rfl⟩⟩
instance : TA Try.prog 83 false := ⟨Try.isAgg83⟩
instance : TZ Try.prog 83 (.map none) [(.map none)] := ⟨Try.zeroValue83, rfl⟩
instance : TU Try.prog 85 (.map 3 64) := ⟨Try.underlying85⟩
instance : TS Try.prog 85 1 := ⟨fun w => by simp only [sizeOf, Sem.run_bind, Try.typeInfo85]; rfl⟩
instance : TBy Try.prog 85 8 := ⟨fun w => ⟨_, Try.typeInfo85 w, rfl⟩⟩
instance : TA Try.prog 85 false := ⟨Try.isAgg85⟩
instance : TZ Try.prog 85 (.map none) [(.map none)] := ⟨Try.zeroValue85, rfl⟩
instance : TU Try.prog 88 (.func #[64] #[3] false) := ⟨Try.underlying88⟩
instance : TS Try.prog 88 1 := ⟨fun w => by simp only [sizeOf, Sem.run_bind, Try.typeInfo88]; rfl⟩
instance : TBy Try.prog 88 8 := ⟨fun w => ⟨_, Try.typeInfo88 w, rfl⟩⟩
instance : TA Try.prog 88 false := ⟨Try.isAgg88⟩
instance : TZ Try.prog 88 .nilFunc [.nilFunc] := ⟨Try.zeroValue88, rfl⟩
instance : TU Try.prog 89 (.func #[23, 88] #[27, 23] false) := ⟨Try.underlying89⟩
instance : TS Try.prog 89 1 := ⟨fun w => by simp only [sizeOf, Sem.run_bind, Try.typeInfo89]; rfl⟩
instance : TBy Try.prog 89 8 := ⟨fun w => ⟨_, Try.typeInfo89 w, rfl⟩⟩
instance : TA Try.prog 89 false := ⟨Try.isAgg89⟩
instance : TZ Try.prog 89 .nilFunc [.nilFunc] := ⟨Try.zeroValue89, rfl⟩
instance : TU Try.prog 91 (.map 3 4) := ⟨Try.underlying91⟩
instance : TS Try.prog 91 1 := ⟨fun w => by simp only [sizeOf, Sem.run_bind, Try.typeInfo91]; rfl⟩
instance : TBy Try.prog 91 8 := ⟨fun w => ⟨_, Try.typeInfo91 w, rfl⟩⟩
instance : TA Try.prog 91 false := ⟨Try.isAgg91⟩
instance : TZ Try.prog 91 (.map none) [(.map none)] := ⟨Try.zeroValue91, rfl⟩
instance : TU Try.prog 92 (.pointer 96) := ⟨Try.underlying92⟩
instance : TS Try.prog 92 1 := ⟨fun w => by simp only [sizeOf, Sem.run_bind, Try.typeInfo92]; rfl⟩
instance : TBy Try.prog 92 8 := ⟨fun w => ⟨_, Try.typeInfo92 w, rfl⟩⟩
instance : TA Try.prog 92 false := ⟨Try.isAgg92⟩
instance : TZ Try.prog 92 (.pointer none) [(.pointer none)] := ⟨Try.zeroValue92, rfl⟩
instance : TS Try.prog 96 8 := ⟨fun w => by simp only [sizeOf, Sem.run_bind, Try.typeInfo96]; rfl⟩
instance : TBy Try.prog 96 176 := ⟨fun w => ⟨_, Try.typeInfo96 w, rfl⟩⟩
instance : TA Try.prog 96 true := ⟨Try.isAgg96⟩
instance : TZ Try.prog 96 (.agg #[(.slice none 0 0), (.slice none 0 0), (.slice none 0 0), (.slice none 0 0), (.slice none 0 0), (.slice none 0 0), (.slice none 0 0), (.int .i64 (0))]) [(.slice none 0 0), (.slice none 0 0), (.slice none 0 0), (.slice none 0 0), (.slice none 0 0), (.slice none 0 0), (.slice none 0 0), (.int .i64 (0))] := ⟨Try.zeroValue96, rfl⟩
instance : TU Try.prog 102 (.func #[108] #[] false) := ⟨Try.underlying102⟩
instance : TS Try.prog 102 1 := ⟨fun w => by simp only [sizeOf, Sem.run_bind, Try.typeInfo102]; rfl⟩
instance : TBy Try.prog 102 8 := ⟨fun w => ⟨_, Try.typeInfo102 w, rfl⟩⟩
instance : TA Try.prog 102 false := ⟨Try.isAgg102⟩
instance : TZ Try.prog 102 .nilFunc [.nilFunc] := ⟨Try.zeroValue102, rfl⟩
instance : TU Try.prog 103 (.func #[108] #[] false) := ⟨Try.underlying103⟩
instance : TS Try.prog 103 1 := ⟨fun w => by simp only [sizeOf, Sem.run_bind, Try.typeInfo103]; rfl⟩
instance : TBy Try.prog 103 8 := ⟨fun w => ⟨_, Try.typeInfo103 w, rfl⟩⟩
instance : TA Try.prog 103 false := ⟨Try.isAgg103⟩
instance : TZ Try.prog 103 .nilFunc [.nilFunc] := ⟨Try.zeroValue103, rfl⟩
instance : TU Try.prog 108 (.func #[64] #[4] false) := ⟨Try.underlying108⟩
instance : TS Try.prog 108 1 := ⟨fun w => by simp only [sizeOf, Sem.run_bind, Try.typeInfo108]; rfl⟩
instance : TBy Try.prog 108 8 := ⟨fun w => ⟨_, Try.typeInfo108 w, rfl⟩⟩
instance : TA Try.prog 108 false := ⟨Try.isAgg108⟩
instance : TZ Try.prog 108 .nilFunc [.nilFunc] := ⟨Try.zeroValue108, rfl⟩
instance : TE Try.prog 3 1 8 (.int .i64 (0)) := ⟨⟨Try.t3, by kernel_rfl, rfl, rfl, rfl⟩⟩
instance : TE Try.prog 5 1 1 (.int .u8 (0)) := ⟨⟨Try.t5, by kernel_rfl, rfl, rfl, rfl⟩⟩
instance : TE Try.prog 23 1 24 (.slice none 0 0) := ⟨⟨Try.t23, by kernel_rfl, rfl, rfl, rfl⟩⟩
instance : TE Try.prog 38 2 16 (.agg #[(.int .i64 (0)), (.int .i64 (0))]) := ⟨⟨Try.t38, by kernel_rfl, rfl, rfl, rfl⟩⟩
instance : TE Try.prog 43 3 24 (.agg #[(.int .u8 (0)), (.int .i64 (0)), (.int .i64 (0))]) := ⟨⟨Try.t43, by kernel_rfl, rfl, rfl, rfl⟩⟩
instance : TE Try.prog 59 4 24 (.agg #[(.int .i64 (0)), (.int .i64 (0)), (.bool false), (.bool false)]) := ⟨⟨Try.t59, by kernel_rfl, rfl, rfl, rfl⟩⟩
instance : TE Try.prog 64 4 32 (.agg #[(.int .i64 (0)), (.int .i64 (0)), (.int .i64 (0)), (.int .i64 (0))]) := ⟨⟨Try.t64, by kernel_rfl, rfl, rfl, rfl⟩⟩
instance : TE Try.prog 79 2 16 (.agg #[(.int .i64 (0)), (.int .i64 (0))]) := ⟨⟨Try.t79, by kernel_rfl, rfl, rfl, rfl⟩⟩
instance : TF Try.prog 30 0 0 := TF.mk' (k := 0) Try.underlying30 rfl rfl (TS.h (P := Try.prog) (t := 27))
instance : TFV Try.prog 30 0 0 1 false := TFV.mk' Try.underlying30 rfl rfl (TS.h (P := Try.prog) (t := 27)) (TA.h (P := Try.prog) (t := 27))
instance : TF Try.prog 30 1 1 := TF.mk' (k := 0) Try.underlying30 rfl rfl (TS.h (P := Try.prog) (t := 23))
instance : TFV Try.prog 30 1 1 1 false := TFV.mk' Try.underlying30 rfl rfl (TS.h (P := Try.prog) (t := 23)) (TA.h (P := Try.prog) (t := 23))
instance : TF Try.prog 30 2 2 := TF.mk' (k := 0) Try.underlying30 rfl rfl (TS.h (P := Try.prog) (t := 23))
instance : TFV Try.prog 30 2 2 1 false := TFV.mk' Try.underlying30 rfl rfl (TS.h (P := Try.prog) (t := 23)) (TA.h (P := Try.prog) (t := 23))
instance : TF Try.prog 30 3 3 := TF.mk' (k := 0) Try.underlying30 rfl rfl (TS.h (P := Try.prog) (t := 23))
instance : TFV Try.prog 30 3 3 1 false := TFV.mk' Try.underlying30 rfl rfl (TS.h (P := Try.prog) (t := 23)) (TA.h (P := Try.prog) (t := 23))
instance : TF Try.prog 30 4 4 := TF.mk' (k := 0) Try.underlying30 rfl rfl (TS.h (P := Try.prog) (t := 28))
instance : TFV Try.prog 30 4 4 1 false := TFV.mk' Try.underlying30 rfl rfl (TS.h (P := Try.prog) (t := 28)) (TA.h (P := Try.prog) (t := 28))
instance : TPl Try.prog 30 [(0, 1), (1, 1), (2, 1), (3, 1), (4, 1)] := ⟨_, Try.underlying30, fun w => by simp [TS.h (P := Try.prog) (t := 23), TS.h (P := Try.prog) (t := 27), TS.h (P := Try.prog) (t := 28)]⟩
instance : TF Try.prog 38 0 0 := TF.mk' (k := 0) Try.underlying38 rfl rfl (TS.h (P := Try.prog) (t := 3))
instance : TFV Try.prog 38 0 0 1 false := TFV.mk' Try.underlying38 rfl rfl (TS.h (P := Try.prog) (t := 3)) (TA.h (P := Try.prog) (t := 3))
instance : TF Try.prog 38 1 1 := TF.mk' (k := 0) Try.underlying38 rfl rfl (TS.h (P := Try.prog) (t := 3))
instance : TFV Try.prog 38 1 1 1 false := TFV.mk' Try.underlying38 rfl rfl (TS.h (P := Try.prog) (t := 3)) (TA.h (P := Try.prog) (t := 3))
instance : TQ Try.prog 38 [.int .i64, .int .i64] := ⟨⟨_, Try.underlying38, by kernel_rfl, by kernel_rfl, ⟨by decide, rfl, Try.isAgg3, Try.underlying3, ⟨by decide, rfl, Try.isAgg3, Try.underlying3, trivial⟩⟩⟩⟩
instance : TPl Try.prog 38 [(0, 1), (1, 1)] := ⟨_, Try.underlying38, fun w => by simp [TS.h (P := Try.prog) (t := 3)]⟩
instance : TF Try.prog 43 0 0 := TF.mk' (k := 0) Try.underlying43 rfl rfl (TS.h (P := Try.prog) (t := 5))
instance : TFV Try.prog 43 0 0 1 false := TFV.mk' Try.underlying43 rfl rfl (TS.h (P := Try.prog) (t := 5)) (TA.h (P := Try.prog) (t := 5))
instance : TF Try.prog 43 1 1 := TF.mk' (k := 0) Try.underlying43 rfl rfl (TS.h (P := Try.prog) (t := 3))
instance : TFV Try.prog 43 1 1 1 false := TFV.mk' Try.underlying43 rfl rfl (TS.h (P := Try.prog) (t := 3)) (TA.h (P := Try.prog) (t := 3))
instance : TF Try.prog 43 2 2 := TF.mk' (k := 0) Try.underlying43 rfl rfl (TS.h (P := Try.prog) (t := 3))
instance : TFV Try.prog 43 2 2 1 false := TFV.mk' Try.underlying43 rfl rfl (TS.h (P := Try.prog) (t := 3)) (TA.h (P := Try.prog) (t := 3))
instance : TQ Try.prog 43 [.int .u8, .int .i64, .int .i64] := ⟨⟨_, Try.underlying43, by kernel_rfl, by kernel_rfl, ⟨by decide, rfl, Try.isAgg5, Try.underlying5, ⟨by decide, rfl, Try.isAgg3, Try.underlying3, ⟨by decide, rfl, Try.isAgg3, Try.underlying3, trivial⟩⟩⟩⟩⟩
instance : TPl Try.prog 43 [(0, 1), (1, 1), (2, 1)] := ⟨_, Try.underlying43, fun w => by simp [TS.h (P := Try.prog) (t := 3), TS.h (P := Try.prog) (t := 5)]⟩
instance : TF Try.prog 47 0 0 := TF.mk' (k := 0) Try.underlying47 rfl rfl (TS.h (P := Try.prog) (t := 22))
instance : TFV Try.prog 47 0 0 1 false := TFV.mk' Try.underlying47 rfl rfl (TS.h (P := Try.prog) (t := 22)) (TA.h (P := Try.prog) (t := 22))
instance : TF Try.prog 47 1 1 := TF.mk' (k := 0) Try.underlying47 rfl rfl (TS.h (P := Try.prog) (t := 22))
instance : TFV Try.prog 47 1 1 1 false := TFV.mk' Try.underlying47 rfl rfl (TS.h (P := Try.prog) (t := 22)) (TA.h (P := Try.prog) (t := 22))
instance : TF Try.prog 47 2 2 := TF.mk' (k := 0) Try.underlying47 rfl rfl (TS.h (P := Try.prog) (t := 22))
instance : TFV Try.prog 47 2 2 1 false := TFV.mk' Try.underlying47 rfl rfl (TS.h (P := Try.prog) (t := 22)) (TA.h (P := Try.prog) (t := 22))
instance : TF Try.prog 47 3 3 := TF.mk' (k := 0) Try.underlying47 rfl rfl (TS.h (P := Try.prog) (t := 22))
instance : TFV Try.prog 47 3 3 1 false := TFV.mk' Try.underlying47 rfl rfl (TS.h (P := Try.prog) (t := 22)) (TA.h (P := Try.prog) (t := 22))
instance : TF Try.prog 47 4 4 := TF.mk' (k := 0) Try.underlying47 rfl rfl (TS.h (P := Try.prog) (t := 5))
instance : TFV Try.prog 47 4 4 1 false := TFV.mk' Try.underlying47 rfl rfl (TS.h (P := Try.prog) (t := 5)) (TA.h (P := Try.prog) (t := 5))
instance : TPl Try.prog 47 [(0, 1), (1, 1), (2, 1), (3, 1), (4, 1)] := ⟨_, Try.underlying47, fun w => by simp [TS.h (P := Try.prog) (t := 22), TS.h (P := Try.prog) (t := 5)]⟩
instance : TF Try.prog 50 0 0 := TF.mk' (k := 0) Try.underlying50 rfl rfl (TS.h (P := Try.prog) (t := 23))
instance : TFV Try.prog 50 0 0 1 false := TFV.mk' Try.underlying50 rfl rfl (TS.h (P := Try.prog) (t := 23)) (TA.h (P := Try.prog) (t := 23))
instance : TF Try.prog 50 1 1 := TF.mk' (k := 0) Try.underlying50 rfl rfl (TS.h (P := Try.prog) (t := 48))
instance : TFV Try.prog 50 1 1 1 false := TFV.mk' Try.underlying50 rfl rfl (TS.h (P := Try.prog) (t := 48)) (TA.h (P := Try.prog) (t := 48))
instance : TF Try.prog 50 2 2 := TF.mk' (k := 0) Try.underlying50 rfl rfl (TS.h (P := Try.prog) (t := 23))
instance : TFV Try.prog 50 2 2 1 false := TFV.mk' Try.underlying50 rfl rfl (TS.h (P := Try.prog) (t := 23)) (TA.h (P := Try.prog) (t := 23))
instance : TF Try.prog 50 3 3 := TF.mk' (k := 0) Try.underlying50 rfl rfl (TS.h (P := Try.prog) (t := 23))
instance : TFV Try.prog 50 3 3 1 false := TFV.mk' Try.underlying50 rfl rfl (TS.h (P := Try.prog) (t := 23)) (TA.h (P := Try.prog) (t := 23))
instance : TPl Try.prog 50 [(0, 1), (1, 1), (2, 1), (3, 1)] := ⟨_, Try.underlying50, fun w => by simp [TS.h (P := Try.prog) (t := 23), TS.h (P := Try.prog) (t := 48)]⟩
instance : TF Try.prog 55 0 0 := TF.mk' (k := 4) Try.underlying55 rfl rfl (TS.h (P := Try.prog) (t := 30))
instance : TFV Try.prog 55 0 0 5 true := TFV.mk' Try.underlying55 rfl rfl (TS.h (P := Try.prog) (t := 30)) (TA.h (P := Try.prog) (t := 30))
instance : TF Try.prog 55 1 5 := TF.mk' (k := 4) Try.underlying55 rfl rfl (TS.h (P := Try.prog) (t := 30))
instance : TFV Try.prog 55 1 5 5 true := TFV.mk' Try.underlying55 rfl rfl (TS.h (P := Try.prog) (t := 30)) (TA.h (P := Try.prog) (t := 30))
instance : TF Try.prog 55 2 10 := TF.mk' (k := 0) Try.underlying55 rfl rfl (TS.h (P := Try.prog) (t := 23))
instance : TFV Try.prog 55 2 10 1 false := TFV.mk' Try.underlying55 rfl rfl (TS.h (P := Try.prog) (t := 23)) (TA.h (P := Try.prog) (t := 23))
instance : TPl Try.prog 55 [(0, 5), (5, 5), (10, 1)] := ⟨_, Try.underlying55, fun w => by simp [TS.h (P := Try.prog) (t := 23), TS.h (P := Try.prog) (t := 30)]⟩
instance : TF Try.prog 59 0 0 := TF.mk' (k := 0) Try.underlying59 rfl rfl (TS.h (P := Try.prog) (t := 3))
instance : TFV Try.prog 59 0 0 1 false := TFV.mk' Try.underlying59 rfl rfl (TS.h (P := Try.prog) (t := 3)) (TA.h (P := Try.prog) (t := 3))
instance : TF Try.prog 59 1 1 := TF.mk' (k := 0) Try.underlying59 rfl rfl (TS.h (P := Try.prog) (t := 3))
instance : TFV Try.prog 59 1 1 1 false := TFV.mk' Try.underlying59 rfl rfl (TS.h (P := Try.prog) (t := 3)) (TA.h (P := Try.prog) (t := 3))
instance : TF Try.prog 59 2 2 := TF.mk' (k := 0) Try.underlying59 rfl rfl (TS.h (P := Try.prog) (t := 4))
instance : TFV Try.prog 59 2 2 1 false := TFV.mk' Try.underlying59 rfl rfl (TS.h (P := Try.prog) (t := 4)) (TA.h (P := Try.prog) (t := 4))
instance : TF Try.prog 59 3 3 := TF.mk' (k := 0) Try.underlying59 rfl rfl (TS.h (P := Try.prog) (t := 4))
instance : TFV Try.prog 59 3 3 1 false := TFV.mk' Try.underlying59 rfl rfl (TS.h (P := Try.prog) (t := 4)) (TA.h (P := Try.prog) (t := 4))
instance : TQ Try.prog 59 [.int .i64, .int .i64, .bool, .bool] := ⟨⟨_, Try.underlying59, by kernel_rfl, by kernel_rfl, ⟨by decide, rfl, Try.isAgg3, Try.underlying3, ⟨by decide, rfl, Try.isAgg3, Try.underlying3, ⟨by decide, rfl, Try.isAgg4, Try.underlying4, ⟨by decide, rfl, Try.isAgg4, Try.underlying4, trivial⟩⟩⟩⟩⟩⟩
instance : TPl Try.prog 59 [(0, 1), (1, 1), (2, 1), (3, 1)] := ⟨_, Try.underlying59, fun w => by simp [TS.h (P := Try.prog) (t := 3), TS.h (P := Try.prog) (t := 4)]⟩
instance : TF Try.prog 64 0 0 := TF.mk' (k := 0) Try.underlying64 rfl rfl (TS.h (P := Try.prog) (t := 3))
instance : TFV Try.prog 64 0 0 1 false := TFV.mk' Try.underlying64 rfl rfl (TS.h (P := Try.prog) (t := 3)) (TA.h (P := Try.prog) (t := 3))
instance : TF Try.prog 64 1 1 := TF.mk' (k := 0) Try.underlying64 rfl rfl (TS.h (P := Try.prog) (t := 3))
instance : TFV Try.prog 64 1 1 1 false := TFV.mk' Try.underlying64 rfl rfl (TS.h (P := Try.prog) (t := 3)) (TA.h (P := Try.prog) (t := 3))
instance : TF Try.prog 64 2 2 := TF.mk' (k := 0) Try.underlying64 rfl rfl (TS.h (P := Try.prog) (t := 3))
instance : TFV Try.prog 64 2 2 1 false := TFV.mk' Try.underlying64 rfl rfl (TS.h (P := Try.prog) (t := 3)) (TA.h (P := Try.prog) (t := 3))
instance : TF Try.prog 64 3 3 := TF.mk' (k := 0) Try.underlying64 rfl rfl (TS.h (P := Try.prog) (t := 3))
instance : TFV Try.prog 64 3 3 1 false := TFV.mk' Try.underlying64 rfl rfl (TS.h (P := Try.prog) (t := 3)) (TA.h (P := Try.prog) (t := 3))
instance : TQ Try.prog 64 [.int .i64, .int .i64, .int .i64, .int .i64] := ⟨⟨_, Try.underlying64, by kernel_rfl, by kernel_rfl, ⟨by decide, rfl, Try.isAgg3, Try.underlying3, ⟨by decide, rfl, Try.isAgg3, Try.underlying3, ⟨by decide, rfl, Try.isAgg3, Try.underlying3, ⟨by decide, rfl, Try.isAgg3, Try.underlying3, trivial⟩⟩⟩⟩⟩⟩
instance : TPl Try.prog 64 [(0, 1), (1, 1), (2, 1), (3, 1)] := ⟨_, Try.underlying64, fun w => by simp [TS.h (P := Try.prog) (t := 3)]⟩
instance : TF Try.prog 69 0 0 := TF.mk' (k := 0) Try.underlying69 rfl rfl (TS.h (P := Try.prog) (t := 27))
instance : TFV Try.prog 69 0 0 1 false := TFV.mk' Try.underlying69 rfl rfl (TS.h (P := Try.prog) (t := 27)) (TA.h (P := Try.prog) (t := 27))
instance : TF Try.prog 69 1 1 := TF.mk' (k := 0) Try.underlying69 rfl rfl (TS.h (P := Try.prog) (t := 27))
instance : TFV Try.prog 69 1 1 1 false := TFV.mk' Try.underlying69 rfl rfl (TS.h (P := Try.prog) (t := 27)) (TA.h (P := Try.prog) (t := 27))
instance : TF Try.prog 69 2 2 := TF.mk' (k := 0) Try.underlying69 rfl rfl (TS.h (P := Try.prog) (t := 23))
instance : TFV Try.prog 69 2 2 1 false := TFV.mk' Try.underlying69 rfl rfl (TS.h (P := Try.prog) (t := 23)) (TA.h (P := Try.prog) (t := 23))
instance : TPl Try.prog 69 [(0, 1), (1, 1), (2, 1)] := ⟨_, Try.underlying69, fun w => by simp [TS.h (P := Try.prog) (t := 23), TS.h (P := Try.prog) (t := 27)]⟩
instance : TF Try.prog 79 0 0 := TF.mk' (k := 0) Try.underlying79 rfl rfl (TS.h (P := Try.prog) (t := 3))
instance : TFV Try.prog 79 0 0 1 false := TFV.mk' Try.underlying79 rfl rfl (TS.h (P := Try.prog) (t := 3)) (TA.h (P := Try.prog) (t := 3))
instance : TF Try.prog 79 1 1 := TF.mk' (k := 0) Try.underlying79 rfl rfl (TS.h (P := Try.prog) (t := 3))
instance : TFV Try.prog 79 1 1 1 false := TFV.mk' Try.underlying79 rfl rfl (TS.h (P := Try.prog) (t := 3)) (TA.h (P := Try.prog) (t := 3))
instance : TQ Try.prog 79 [.int .i64, .int .i64] := ⟨⟨_, Try.underlying79, by kernel_rfl, by kernel_rfl, ⟨by decide, rfl, Try.isAgg3, Try.underlying3, ⟨by decide, rfl, Try.isAgg3, Try.underlying3, trivial⟩⟩⟩⟩
instance : TPl Try.prog 79 [(0, 1), (1, 1)] := ⟨_, Try.underlying79, fun w => by simp [TS.h (P := Try.prog) (t := 3)]⟩
instance : TF Try.prog 96 0 0 := TF.mk' (k := 4) Try.underlying96 rfl rfl (TS.h (P := Try.prog) (t := 30))
instance : TFV Try.prog 96 0 0 5 true := TFV.mk' Try.underlying96 rfl rfl (TS.h (P := Try.prog) (t := 30)) (TA.h (P := Try.prog) (t := 30))
instance : TF Try.prog 96 1 5 := TF.mk' (k := 0) Try.underlying96 rfl rfl (TS.h (P := Try.prog) (t := 23))
instance : TFV Try.prog 96 1 5 1 false := TFV.mk' Try.underlying96 rfl rfl (TS.h (P := Try.prog) (t := 23)) (TA.h (P := Try.prog) (t := 23))
instance : TF Try.prog 96 2 6 := TF.mk' (k := 0) Try.underlying96 rfl rfl (TS.h (P := Try.prog) (t := 23))
instance : TFV Try.prog 96 2 6 1 false := TFV.mk' Try.underlying96 rfl rfl (TS.h (P := Try.prog) (t := 23)) (TA.h (P := Try.prog) (t := 23))
instance : TF Try.prog 96 3 7 := TF.mk' (k := 0) Try.underlying96 rfl rfl (TS.h (P := Try.prog) (t := 3))
instance : TFV Try.prog 96 3 7 1 false := TFV.mk' Try.underlying96 rfl rfl (TS.h (P := Try.prog) (t := 3)) (TA.h (P := Try.prog) (t := 3))
instance : TPl Try.prog 96 [(0, 5), (5, 1), (6, 1), (7, 1)] := ⟨_, Try.underlying96, fun w => by simp [TS.h (P := Try.prog) (t := 23), TS.h (P := Try.prog) (t := 3), TS.h (P := Try.prog) (t := 30)]⟩
instance : TC Try.prog 3 Try.f3 := ⟨Try.func3, ⟨_, rfl⟩, by kernel_rfl⟩
instance : TC Try.prog 4 Try.f4 := ⟨Try.func4, ⟨_, rfl⟩, by kernel_rfl⟩
instance : TC Try.prog 5 Try.f5 := ⟨Try.func5, ⟨_, rfl⟩, by kernel_rfl⟩
instance : TC Try.prog 6 Try.f6 := ⟨Try.func6, ⟨_, rfl⟩, by kernel_rfl⟩
instance : TC Try.prog 7 Try.f7 := ⟨Try.func7, ⟨_, rfl⟩, by kernel_rfl⟩
instance : TC Try.prog 8 Try.f8 := ⟨Try.func8, ⟨_, rfl⟩, by kernel_rfl⟩
instance : TC Try.prog 9 Try.f9 := ⟨Try.func9, ⟨_, rfl⟩, by kernel_rfl⟩
instance : TC Try.prog 10 Try.f10 := ⟨Try.func10, ⟨_, rfl⟩, by kernel_rfl⟩
instance : TC Try.prog 11 Try.f11 := ⟨Try.func11, ⟨_, rfl⟩, by kernel_rfl⟩
instance : TC Try.prog 12 Try.f12 := ⟨Try.func12, ⟨_, rfl⟩, by kernel_rfl⟩
instance : TC Try.prog 13 Try.f13 := ⟨Try.func13, ⟨_, rfl⟩, by kernel_rfl⟩
instance : TC Try.prog 14 Try.f14 := ⟨Try.func14, ⟨_, rfl⟩, by kernel_rfl⟩
instance : TC Try.prog 15 Try.f15 := ⟨Try.func15, ⟨_, rfl⟩, by kernel_rfl⟩
instance : TC Try.prog 16 Try.f16 := ⟨Try.func16, ⟨_, rfl⟩, by kernel_rfl⟩
instance : TC Try.prog 17 Try.f17 := ⟨Try.func17, ⟨_, rfl⟩, by kernel_rfl⟩
instance : TC Try.prog 18 Try.f18 := ⟨Try.func18, ⟨_, rfl⟩, by kernel_rfl⟩
instance : TC Try.prog 19 Try.f19 := ⟨Try.func19, ⟨_, rfl⟩, by kernel_rfl⟩
instance : TC Try.prog 20 Try.f20 := ⟨Try.func20, ⟨_, rfl⟩, by kernel_rfl⟩
instance : TC Try.prog 21 Try.f21 := ⟨Try.func21, ⟨_, rfl⟩, by kernel_rfl⟩
instance : TC Try.prog 22 Try.f22 := ⟨Try.func22, ⟨_, rfl⟩, by kernel_rfl⟩
instance : TC Try.prog 23 Try.f23 := ⟨Try.func23, ⟨_, rfl⟩, by kernel_rfl⟩
instance : TC Try.prog 24 Try.f24 := ⟨Try.func24, ⟨_, rfl⟩, by kernel_rfl⟩
instance : TC Try.prog 25 Try.f25 := ⟨Try.func25, ⟨_, rfl⟩, by kernel_rfl⟩
instance : TC Try.prog 26 Try.f26 := ⟨Try.func26, ⟨_, rfl⟩, by kernel_rfl⟩
instance : TC Try.prog 27 Try.f27 := ⟨Try.func27, ⟨_, rfl⟩, by kernel_rfl⟩
instance : TC Try.prog 28 Try.f28 := ⟨Try.func28, ⟨_, rfl⟩, by kernel_rfl⟩
instance : TC Try.prog 29 Try.f29 := ⟨Try.func29, ⟨_, rfl⟩, by kernel_rfl⟩
instance : TC Try.prog 30 Try.f30 := ⟨Try.func30, ⟨_, rfl⟩, by kernel_rfl⟩
instance : TC Try.prog 31 Try.f31 := ⟨Try.func31, ⟨_, rfl⟩, by kernel_rfl⟩
instance : TC Try.prog 32 Try.f32 := ⟨Try.func32, ⟨_, rfl⟩, by kernel_rfl⟩
instance : TC Try.prog 33 Try.f33 := ⟨Try.func33, ⟨_, rfl⟩, by kernel_rfl⟩
instance : TC Try.prog 34 Try.f34 := ⟨Try.func34, ⟨_, rfl⟩, by kernel_rfl⟩
instance : TC Try.prog 35 Try.f35 := ⟨Try.func35, ⟨_, rfl⟩, by kernel_rfl⟩
instance : TC Try.prog 36 Try.f36 := ⟨Try.func36, ⟨_, rfl⟩, by kernel_rfl⟩
instance : TC Try.prog 37 Try.f37 := ⟨Try.func37, ⟨_, rfl⟩, by kernel_rfl⟩
instance : TC Try.prog 38 Try.f38 := ⟨Try.func38, ⟨_, rfl⟩, by kernel_rfl⟩
instance : TC Try.prog 39 Try.f39 := ⟨Try.func39, ⟨_, rfl⟩, by kernel_rfl⟩
instance : TC Try.prog 40 Try.f40 := ⟨Try.func40, ⟨_, rfl⟩, by kernel_rfl⟩
instance : TC Try.prog 41 Try.f41 := ⟨Try.func41, ⟨_, rfl⟩, by kernel_rfl⟩
instance : TC Try.prog 42 Try.f42 := ⟨Try.func42, ⟨_, rfl⟩, by kernel_rfl⟩
instance : TC Try.prog 43 Try.f43 := ⟨Try.func43, ⟨_, rfl⟩, by kernel_rfl⟩
instance : TC Try.prog 44 Try.f44 := ⟨Try.func44, ⟨_, rfl⟩, by kernel_rfl⟩
instance : TC Try.prog 45 Try.f45 := ⟨Try.func45, ⟨_, rfl⟩, by kernel_rfl⟩
end Go.Proofs.Ytlahifpnncekgaa
