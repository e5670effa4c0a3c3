/- Closed facts of the program: written by a program (facts.py). -/
import Derived.Test.YtgkejkfodigdiaaRows
import Derived.Test.YtgkejkfodigdiaaSxH
namespace Go.Proofs.Ytgkejkfodigdiaa
open Go Go.Sx

instance : TU Try.prog 3 (.int .i64) := ⟨Try.underlying3⟩
instance : TS Try.prog 3 1 := ⟨fun w => by simp only [sizeOf, Sem.run_bind, Try.typeInfo3]; rfl⟩
instance : TBy Try.prog 3 8 := ⟨fun w => ⟨_, Try.typeInfo3 w, rfl⟩⟩
instance : TA Try.prog 3 false := ⟨Try.isAgg3⟩
instance : TZ Try.prog 3 (.int .i64 (0)) [(.int .i64 (0))] := ⟨Try.zeroValue3, rfl⟩
instance : TU Try.prog 4 .bool := ⟨Try.underlying4⟩
instance : TS Try.prog 4 1 := ⟨fun w => by simp only [sizeOf, Sem.run_bind, Try.typeInfo4]; rfl⟩
instance : TBy Try.prog 4 1 := ⟨fun w => ⟨_, Try.typeInfo4 w, rfl⟩⟩
instance : TA Try.prog 4 false := ⟨Try.isAgg4⟩
instance : TZ Try.prog 4 (.bool false) [(.bool false)] := ⟨Try.zeroValue4, rfl⟩
instance : TU Try.prog 5 (.int .u8) := ⟨Try.underlying5⟩
instance : TS Try.prog 5 1 := ⟨fun w => by simp only [sizeOf, Sem.run_bind, Try.typeInfo5]; rfl⟩
instance : TBy Try.prog 5 1 := ⟨fun w => ⟨_, Try.typeInfo5 w, rfl⟩⟩
instance : TA Try.prog 5 false := ⟨Try.isAgg5⟩
instance : TZ Try.prog 5 (.int .u8 (0)) [(.int .u8 (0))] := ⟨Try.zeroValue5, rfl⟩
instance : TU Try.prog 9 .string := ⟨Try.underlying9⟩
instance : TS Try.prog 9 1 := ⟨fun w => by simp only [sizeOf, Sem.run_bind, Try.typeInfo9]; rfl⟩
instance : TBy Try.prog 9 16 := ⟨fun w => ⟨_, Try.typeInfo9 w, rfl⟩⟩
instance : TA Try.prog 9 false := ⟨Try.isAgg9⟩
instance : TZ Try.prog 9 (.string ⟨#[]⟩) [(.string ⟨#[]⟩)] := ⟨Try.zeroValue9, rfl⟩
instance : TS Try.prog 23 4 := ⟨fun w => by simp only [sizeOf, Sem.run_bind, Try.typeInfo23]; rfl⟩
instance : TBy Try.prog 23 32 := ⟨fun w => ⟨_, Try.typeInfo23 w, rfl⟩⟩
instance : TA Try.prog 23 true := ⟨Try.isAgg23⟩
instance : TZ Try.prog 23 (.agg #[(.int .i64 (0)), (.int .i64 (0)), (.int .i64 (0)), (.int .i64 (0))]) [(.int .i64 (0)), (.int .i64 (0)), (.int .i64 (0)), (.int .i64 (0))] := ⟨Try.zeroValue23, rfl⟩
instance : TU Try.prog 27 (.int .i64) := ⟨Try.underlying27⟩
instance : TS Try.prog 27 1 := ⟨fun w => by simp only [sizeOf, Sem.run_bind, Try.typeInfo27]; rfl⟩
instance : TBy Try.prog 27 8 := ⟨fun w => ⟨_, Try.typeInfo27 w, rfl⟩⟩
instance : TA Try.prog 27 false := ⟨Try.isAgg27⟩
instance : TZ Try.prog 27 (.int .i64 (0)) [(.int .i64 (0))] := ⟨Try.zeroValue27, rfl⟩
instance : TU Try.prog 33 (.slice 38) := ⟨Try.underlying33⟩
instance : TS Try.prog 33 1 := ⟨fun w => by simp only [sizeOf, Sem.run_bind, Try.typeInfo33]; rfl⟩
instance : TBy Try.prog 33 24 := ⟨fun w => ⟨_, Try.typeInfo33 w, rfl⟩⟩
instance : TA Try.prog 33 false := ⟨Try.isAgg33⟩
instance : TZ Try.prog 33 (.slice none 0 0) [(.slice none 0 0)] := ⟨Try.zeroValue33, rfl⟩
instance : TU Try.prog 36 (.array 6 3) := ⟨Try.underlying36⟩
instance : TS Try.prog 36 6 := ⟨fun w => by simp only [sizeOf, Sem.run_bind, Try.typeInfo36]; rfl⟩
instance : TBy Try.prog 36 48 := ⟨fun w => ⟨_, Try.typeInfo36 w, rfl⟩⟩
instance : TA Try.prog 36 true := ⟨Try.isAgg36⟩
instance : TZ Try.prog 36 (.agg #[(.int .i64 (0)), (.int .i64 (0)), (.int .i64 (0)), (.int .i64 (0)), (.int .i64 (0)), (.int .i64 (0))]) [(.int .i64 (0)), (.int .i64 (0)), (.int .i64 (0)), (.int .i64 (0)), (.int .i64 (0)), (.int .i64 (0))] := ⟨Try.zeroValue36, rfl⟩
instance : TS Try.prog 38 2 := ⟨fun w => by simp only [sizeOf, Sem.run_bind, Try.typeInfo38]; rfl⟩
instance : TBy Try.prog 38 2 := ⟨fun w => ⟨_, Try.typeInfo38 w, rfl⟩⟩
instance : TA Try.prog 38 true := ⟨Try.isAgg38⟩
instance : TZ Try.prog 38 (.agg #[(.int .u8 (0)), (.int .u8 (0))]) [(.int .u8 (0)), (.int .u8 (0))] := ⟨Try.zeroValue38, rfl⟩
instance : TU Try.prog 41 (.slice 23) := ⟨Try.underlying41⟩
instance : TS Try.prog 41 1 := ⟨fun w => by simp only [sizeOf, Sem.run_bind, Try.typeInfo41]; rfl⟩
instance : TBy Try.prog 41 24 := ⟨fun w => ⟨_, Try.typeInfo41 w, rfl⟩⟩
instance : TA Try.prog 41 false := ⟨Try.isAgg41⟩
instance : TZ Try.prog 41 (.slice none 0 0) [(.slice none 0 0)] := ⟨Try.zeroValue41, rfl⟩
instance : TU Try.prog 42 (.slice 9) := ⟨Try.underlying42⟩
instance : TS Try.prog 42 1 := ⟨fun w => by simp only [sizeOf, Sem.run_bind, Try.typeInfo42]; rfl⟩
instance : TBy Try.prog 42 24 := ⟨fun w => ⟨_, Try.typeInfo42 w, rfl⟩⟩
instance : TA Try.prog 42 false := ⟨Try.isAgg42⟩
instance : TZ Try.prog 42 (.slice none 0 0) [(.slice none 0 0)] := ⟨Try.zeroValue42, rfl⟩
instance : TU Try.prog 44 (.slice 42) := ⟨Try.underlying44⟩
instance : TS Try.prog 44 1 := ⟨fun w => by simp only [sizeOf, Sem.run_bind, Try.typeInfo44]; rfl⟩
instance : TBy Try.prog 44 24 := ⟨fun w => ⟨_, Try.typeInfo44 w, rfl⟩⟩
instance : TA Try.prog 44 false := ⟨Try.isAgg44⟩
instance : TZ Try.prog 44 (.slice none 0 0) [(.slice none 0 0)] := ⟨Try.zeroValue44, rfl⟩
instance : TU Try.prog 46 (.slice 5) := ⟨Try.underlying46⟩
instance : TS Try.prog 46 1 := ⟨fun w => by simp only [sizeOf, Sem.run_bind, Try.typeInfo46]; rfl⟩
instance : TBy Try.prog 46 24 := ⟨fun w => ⟨_, Try.typeInfo46 w, rfl⟩⟩
instance : TA Try.prog 46 false := ⟨Try.isAgg46⟩
instance : TZ Try.prog 46 (.slice none 0 0) [(.slice none 0 0)] := ⟨Try.zeroValue46, rfl⟩
instance : TU Try.prog 47 (.array 4 3) := ⟨Try.underlying47⟩
instance : TS Try.prog 47 4 := ⟨fun w => by simp only [sizeOf, Sem.run_bind, Try.typeInfo47]; rfl⟩
instance : TBy Try.prog 47 32 := ⟨fun w => ⟨_, Try.typeInfo47 w, rfl⟩⟩
instance : TA Try.prog 47 true := ⟨Try.isAgg47⟩
instance : TZ Try.prog 47 (.agg #[(.int .i64 (0)), (.int .i64 (0)), (.int .i64 (0)), (.int .i64 (0))]) [(.int .i64 (0)), (.int .i64 (0)), (.int .i64 (0)), (.int .i64 (0))] := ⟨Try.zeroValue47, rfl⟩
instance : TS Try.prog 56 8 := ⟨fun w => by simp only [sizeOf, Sem.run_bind, Try.typeInfo56]; rfl⟩
instance : TBy Try.prog 56 96 := ⟨fun w => ⟨_, Try.typeInfo56 w, rfl⟩⟩
instance : TA Try.prog 56 true := ⟨Try.isAgg56⟩
instance : TZ Try.prog 56 (.agg #[(.string ⟨#[]⟩), (.string ⟨#[]⟩), (.int .i64 (0)), (.int .i64 (0)), (.int .i64 (0)), (.int .i64 (0)), (.int .i64 (0)), (.slice none 0 0)]) [(.string ⟨#[]⟩), (.string ⟨#[]⟩), (.int .i64 (0)), (.int .i64 (0)), (.int .i64 (0)), (.int .i64 (0)), (.int .i64 (0)), (.slice none 0 0)] := ⟨Try.zeroValue56, rfl⟩
instance : TU Try.prog 57 (.slice 56) := ⟨Try.underlying57⟩
instance : TS Try.prog 57 1 := ⟨fun w => by simp only [sizeOf, Sem.run_bind, Try.typeInfo57]; rfl⟩
instance : TBy Try.prog 57 24 := ⟨fun w => ⟨_, Try.typeInfo57 w, rfl⟩⟩
instance : TA Try.prog 57 false := ⟨Try.isAgg57⟩
instance : TZ Try.prog 57 (.slice none 0 0) [(.slice none 0 0)] := ⟨Try.zeroValue57, rfl⟩
instance : TS Try.prog 58 4 := ⟨fun w => by simp only [sizeOf, Sem.run_bind, Try.typeInfo58]; rfl⟩
instance : TBy Try.prog 58 32 := ⟨fun w => ⟨_, Try.typeInfo58 w, rfl⟩⟩
instance : TA Try.prog 58 true := ⟨Try.isAgg58⟩
instance : TZ Try.prog 58 (.agg #[(.int .i64 (0)), (.int .i64 (0)), (.int .i64 (0)), (.int .i64 (0))]) [(.int .i64 (0)), (.int .i64 (0)), (.int .i64 (0)), (.int .i64 (0))] := ⟨Try.zeroValue58, rfl⟩
instance : TU Try.prog 63 (.slice 66) := ⟨Try.underlying63⟩
instance : TS Try.prog 63 1 := ⟨fun w => by simp only [sizeOf, Sem.run_bind, Try.typeInfo63]; rfl⟩
instance : TBy Try.prog 63 24 := ⟨fun w => ⟨_, Try.typeInfo63 w, rfl⟩⟩
instance : TA Try.prog 63 false := ⟨Try.isAgg63⟩
instance : TZ Try.prog 63 (.slice none 0 0) [(.slice none 0 0)] := ⟨Try.zeroValue63, rfl⟩
instance : TS Try.prog 66 2 := ⟨fun w => by simp only [sizeOf, Sem.run_bind, Try.typeInfo66]; rfl⟩
instance : TBy Try.prog 66 2 := ⟨fun w => ⟨_, Try.typeInfo66 w, rfl⟩⟩
instance : TA Try.prog 66 true := ⟨Try.isAgg66⟩
instance : TZ Try.prog 66 (.agg #[(.int .u8 (0)), (.int .u8 (0))]) [(.int .u8 (0)), (.int .u8 (0))] := ⟨Try.zeroValue66, rfl⟩
instance : TU Try.prog 69 (.slice 3) := ⟨Try.underlying69⟩
instance : TS Try.prog 69 1 := ⟨fun w => by simp only [sizeOf, Sem.run_bind, Try.typeInfo69]; rfl⟩
instance : TBy Try.prog 69 24 := ⟨fun w => ⟨_, Try.typeInfo69 w, rfl⟩⟩
instance : TA Try.prog 69 false := ⟨Try.isAgg69⟩
instance : TZ Try.prog 69 (.slice none 0 0) [(.slice none 0 0)] := ⟨Try.zeroValue69, rfl⟩
instance : TU Try.prog 70 (.func #[69] #[] false) := ⟨Try.underlying70⟩
instance : TS Try.prog 70 1 := ⟨fun w => by simp only [sizeOf, Sem.run_bind, Try.typeInfo70]; rfl⟩
instance : TBy Try.prog 70 8 := ⟨fun w => ⟨_, Try.typeInfo70 w, rfl⟩⟩
instance : TA Try.prog 70 false := ⟨Try.isAgg70⟩
instance : TZ Try.prog 70 .nilFunc [.nilFunc] := ⟨Try.zeroValue70, rfl⟩
instance : TU Try.prog 71 (.slice 69) := ⟨Try.underlying71⟩
instance : TS Try.prog 71 1 := ⟨fun w => by simp only [sizeOf, Sem.run_bind, Try.typeInfo71]; rfl⟩
instance : TBy Try.prog 71 24 := ⟨fun w => ⟨_, Try.typeInfo71 w, rfl⟩⟩
instance : TA Try.prog 71 false := ⟨Try.isAgg71⟩
instance : TZ Try.prog 71 (.slice none 0 0) [(.slice none 0 0)] := ⟨Try.zeroValue71, rfl⟩
instance : TU Try.prog 74 (.map 5 78) := ⟨Try.underlying74⟩
instance : TS Try.prog 74 1 := ⟨fun w => by simp only [sizeOf, Sem.run_bind, Try.typeInfo74]; rfl⟩
instance : TBy Try.prog 74 8 := ⟨fun w => ⟨_, Try.typeInfo74 w, rfl⟩⟩
instance : TA Try.prog 74 false := ⟨Try.isAgg74⟩
instance : TZ Try.prog 74 (.map none) [(.map none)] := ⟨Try.zeroValue74, rfl⟩
instance : TU Try.prog 78 (.func #[] #[3] false) := ⟨Try.underlying78⟩
instance : TS Try.prog 78 1 := ⟨fun w => by simp only [sizeOf, Sem.run_bind, Try.typeInfo78]; rfl⟩
instance : TBy Try.prog 78 8 := ⟨fun w => ⟨_, Try.typeInfo78 w, rfl⟩⟩
instance : TA Try.prog 78 false := ⟨Try.isAgg78⟩
instance : TZ Try.prog 78 .nilFunc [.nilFunc] := ⟨Try.zeroValue78, rfl⟩
instance : TU Try.prog 83 (.func #[5] #[4] false) := ⟨Try.underlying83⟩
instance : TS Try.prog 83 1 := ⟨fun w => by simp only [sizeOf, Sem.run_bind, Try.typeInfo83]; rfl⟩
instance : TBy Try.prog 83 8 := ⟨fun w => ⟨_, Try.typeInfo83 w, rfl⟩⟩
instance : TA Try.prog 83 false := ⟨Try.isAgg83⟩
instance : TZ Try.prog 83 .nilFunc [.nilFunc] := ⟨Try.zeroValue83, rfl⟩
instance : TU Try.prog 84 (.map 5 83) := ⟨Try.underlying84⟩
instance : TS Try.prog 84 1 := ⟨fun w => by simp only [sizeOf, Sem.run_bind, Try.typeInfo84]; rfl⟩
instance : TBy Try.prog 84 8 := ⟨fun w => ⟨_, Try.typeInfo84 w, rfl⟩⟩
instance : TA Try.prog 84 false := ⟨Try.isAgg84⟩
instance : TZ Try.prog 84 (.map none) [(.map none)] := ⟨Try.zeroValue84, rfl⟩
instance : TU Try.prog 91 (.array 3 69) := ⟨Try.underlying91⟩
instance : TS Try.prog 91 3 := ⟨fun w => by simp only [sizeOf, Sem.run_bind, Try.typeInfo91]; rfl⟩
instance : TBy Try.prog 91 72 := ⟨fun w => ⟨_, Try.typeInfo91 w, rfl⟩⟩
instance : TA Try.prog 91 true := ⟨Try.isAgg91⟩
instance : TZ Try.prog 91 (.agg #[(.slice none 0 0), (.slice none 0 0), (.slice none 0 0)]) [(.slice none 0 0), (.slice none 0 0), (.slice none 0 0)] := ⟨Try.zeroValue91, rfl⟩
instance : TU Try.prog 93 (.pointer 91) := ⟨Try.underlying93⟩
instance : TS Try.prog 93 1 := ⟨fun w => by simp only [sizeOf, Sem.run_bind, Try.typeInfo93]; rfl⟩
instance : TBy Try.prog 93 8 := ⟨fun w => ⟨_, Try.typeInfo93 w, rfl⟩⟩
instance : TA Try.prog 93 false := ⟨Try.isAgg93⟩
instance : TZ Try.prog 93 (.pointer none) [(.pointer none)] := ⟨Try.zeroValue93, rfl⟩
instance : TE Try.prog 3 1 8 (.int .i64 (0)) := ⟨⟨Try.t3, by kernel_rfl, rfl, rfl, rfl⟩⟩
instance : TE Try.prog 5 1 1 (.int .u8 (0)) := ⟨⟨Try.t5, by kernel_rfl, rfl, rfl, rfl⟩⟩
instance : TE Try.prog 9 1 16 (.string ⟨#[]⟩) := ⟨⟨Try.t9, by kernel_rfl, rfl, rfl, rfl⟩⟩
instance : TE Try.prog 23 4 32 (.agg #[(.int .i64 (0)), (.int .i64 (0)), (.int .i64 (0)), (.int .i64 (0))]) := ⟨⟨Try.t23, by kernel_rfl, rfl, rfl, rfl⟩⟩
instance : TE Try.prog 38 2 2 (.agg #[(.int .u8 (0)), (.int .u8 (0))]) := ⟨⟨Try.t38, by kernel_rfl, rfl, rfl, rfl⟩⟩
instance : TE Try.prog 42 1 24 (.slice none 0 0) := ⟨⟨Try.t42, by kernel_rfl, rfl, rfl, rfl⟩⟩
instance : TE Try.prog 56 8 96 (.agg #[(.string ⟨#[]⟩), (.string ⟨#[]⟩), (.int .i64 (0)), (.int .i64 (0)), (.int .i64 (0)), (.int .i64 (0)), (.int .i64 (0)), (.slice none 0 0)]) := ⟨⟨Try.t56, by kernel_rfl, rfl, rfl, rfl⟩⟩
instance : TE Try.prog 66 2 2 (.agg #[(.int .u8 (0)), (.int .u8 (0))]) := ⟨⟨Try.t66, by kernel_rfl, rfl, rfl, rfl⟩⟩
instance : TE Try.prog 69 1 24 (.slice none 0 0) := ⟨⟨Try.t69, by kernel_rfl, rfl, rfl, rfl⟩⟩
instance : TF Try.prog 23 0 0 := TF.mk' (k := 0) Try.underlying23 rfl rfl (TS.h (P := Try.prog) (t := 3))
instance : TFV Try.prog 23 0 0 1 false := TFV.mk' Try.underlying23 rfl rfl (TS.h (P := Try.prog) (t := 3)) (TA.h (P := Try.prog) (t := 3))
instance : TF Try.prog 23 1 1 := TF.mk' (k := 0) Try.underlying23 rfl rfl (TS.h (P := Try.prog) (t := 3))
instance : TFV Try.prog 23 1 1 1 false := TFV.mk' Try.underlying23 rfl rfl (TS.h (P := Try.prog) (t := 3)) (TA.h (P := Try.prog) (t := 3))
instance : TF Try.prog 23 2 2 := TF.mk' (k := 0) Try.underlying23 rfl rfl (TS.h (P := Try.prog) (t := 3))
instance : TFV Try.prog 23 2 2 1 false := TFV.mk' Try.underlying23 rfl rfl (TS.h (P := Try.prog) (t := 3)) (TA.h (P := Try.prog) (t := 3))
instance : TF Try.prog 23 3 3 := TF.mk' (k := 0) Try.underlying23 rfl rfl (TS.h (P := Try.prog) (t := 3))
instance : TFV Try.prog 23 3 3 1 false := TFV.mk' Try.underlying23 rfl rfl (TS.h (P := Try.prog) (t := 3)) (TA.h (P := Try.prog) (t := 3))
instance : TQ Try.prog 23 [.int .i64, .int .i64, .int .i64, .int .i64] := ⟨⟨_, Try.underlying23, by kernel_rfl, by kernel_rfl, ⟨by decide, rfl, Try.isAgg3, Try.underlying3, ⟨by decide, rfl, Try.isAgg3, Try.underlying3, ⟨by decide, rfl, Try.isAgg3, Try.underlying3, ⟨by decide, rfl, Try.isAgg3, Try.underlying3, trivial⟩⟩⟩⟩⟩⟩
instance : TPl Try.prog 23 [(0, 1), (1, 1), (2, 1), (3, 1)] := ⟨_, Try.underlying23, fun w => by simp [TS.h (P := Try.prog) (t := 3)]⟩
instance : TF Try.prog 38 0 0 := TF.mk' (k := 0) Try.underlying38 rfl rfl (TS.h (P := Try.prog) (t := 5))
instance : TFV Try.prog 38 0 0 1 false := TFV.mk' Try.underlying38 rfl rfl (TS.h (P := Try.prog) (t := 5)) (TA.h (P := Try.prog) (t := 5))
instance : TF Try.prog 38 1 1 := TF.mk' (k := 0) Try.underlying38 rfl rfl (TS.h (P := Try.prog) (t := 5))
instance : TFV Try.prog 38 1 1 1 false := TFV.mk' Try.underlying38 rfl rfl (TS.h (P := Try.prog) (t := 5)) (TA.h (P := Try.prog) (t := 5))
instance : TQ Try.prog 38 [.int .u8, .int .u8] := ⟨⟨_, Try.underlying38, by kernel_rfl, by kernel_rfl, ⟨by decide, rfl, Try.isAgg5, Try.underlying5, ⟨by decide, rfl, Try.isAgg5, Try.underlying5, trivial⟩⟩⟩⟩
instance : TPl Try.prog 38 [(0, 1), (1, 1)] := ⟨_, Try.underlying38, fun w => by simp [TS.h (P := Try.prog) (t := 5)]⟩
instance : TF Try.prog 56 0 0 := TF.mk' (k := 0) Try.underlying56 rfl rfl (TS.h (P := Try.prog) (t := 9))
instance : TFV Try.prog 56 0 0 1 false := TFV.mk' Try.underlying56 rfl rfl (TS.h (P := Try.prog) (t := 9)) (TA.h (P := Try.prog) (t := 9))
instance : TF Try.prog 56 1 1 := TF.mk' (k := 0) Try.underlying56 rfl rfl (TS.h (P := Try.prog) (t := 9))
instance : TFV Try.prog 56 1 1 1 false := TFV.mk' Try.underlying56 rfl rfl (TS.h (P := Try.prog) (t := 9)) (TA.h (P := Try.prog) (t := 9))
instance : TF Try.prog 56 2 2 := TF.mk' (k := 3) Try.underlying56 rfl rfl (TS.h (P := Try.prog) (t := 23))
instance : TFV Try.prog 56 2 2 4 true := TFV.mk' Try.underlying56 rfl rfl (TS.h (P := Try.prog) (t := 23)) (TA.h (P := Try.prog) (t := 23))
instance : TF Try.prog 56 3 6 := TF.mk' (k := 0) Try.underlying56 rfl rfl (TS.h (P := Try.prog) (t := 3))
instance : TFV Try.prog 56 3 6 1 false := TFV.mk' Try.underlying56 rfl rfl (TS.h (P := Try.prog) (t := 3)) (TA.h (P := Try.prog) (t := 3))
instance : TF Try.prog 56 4 7 := TF.mk' (k := 0) Try.underlying56 rfl rfl (TS.h (P := Try.prog) (t := 33))
instance : TFV Try.prog 56 4 7 1 false := TFV.mk' Try.underlying56 rfl rfl (TS.h (P := Try.prog) (t := 33)) (TA.h (P := Try.prog) (t := 33))
instance : TPl Try.prog 56 [(0, 1), (1, 1), (2, 4), (6, 1), (7, 1)] := ⟨_, Try.underlying56, fun w => by simp [TS.h (P := Try.prog) (t := 23), TS.h (P := Try.prog) (t := 3), TS.h (P := Try.prog) (t := 33), TS.h (P := Try.prog) (t := 9)]⟩
instance : TF Try.prog 58 0 0 := TF.mk' (k := 0) Try.underlying58 rfl rfl (TS.h (P := Try.prog) (t := 3))
instance : TFV Try.prog 58 0 0 1 false := TFV.mk' Try.underlying58 rfl rfl (TS.h (P := Try.prog) (t := 3)) (TA.h (P := Try.prog) (t := 3))
instance : TF Try.prog 58 1 1 := TF.mk' (k := 0) Try.underlying58 rfl rfl (TS.h (P := Try.prog) (t := 3))
instance : TFV Try.prog 58 1 1 1 false := TFV.mk' Try.underlying58 rfl rfl (TS.h (P := Try.prog) (t := 3)) (TA.h (P := Try.prog) (t := 3))
instance : TF Try.prog 58 2 2 := TF.mk' (k := 0) Try.underlying58 rfl rfl (TS.h (P := Try.prog) (t := 3))
instance : TFV Try.prog 58 2 2 1 false := TFV.mk' Try.underlying58 rfl rfl (TS.h (P := Try.prog) (t := 3)) (TA.h (P := Try.prog) (t := 3))
instance : TF Try.prog 58 3 3 := TF.mk' (k := 0) Try.underlying58 rfl rfl (TS.h (P := Try.prog) (t := 3))
instance : TFV Try.prog 58 3 3 1 false := TFV.mk' Try.underlying58 rfl rfl (TS.h (P := Try.prog) (t := 3)) (TA.h (P := Try.prog) (t := 3))
instance : TQ Try.prog 58 [.int .i64, .int .i64, .int .i64, .int .i64] := ⟨⟨_, Try.underlying58, by kernel_rfl, by kernel_rfl, ⟨by decide, rfl, Try.isAgg3, Try.underlying3, ⟨by decide, rfl, Try.isAgg3, Try.underlying3, ⟨by decide, rfl, Try.isAgg3, Try.underlying3, ⟨by decide, rfl, Try.isAgg3, Try.underlying3, trivial⟩⟩⟩⟩⟩⟩
instance : TPl Try.prog 58 [(0, 1), (1, 1), (2, 1), (3, 1)] := ⟨_, Try.underlying58, fun w => by simp [TS.h (P := Try.prog) (t := 3)]⟩
instance : TF Try.prog 66 0 0 := TF.mk' (k := 0) Try.underlying66 rfl rfl (TS.h (P := Try.prog) (t := 5))
instance : TFV Try.prog 66 0 0 1 false := TFV.mk' Try.underlying66 rfl rfl (TS.h (P := Try.prog) (t := 5)) (TA.h (P := Try.prog) (t := 5))
instance : TF Try.prog 66 1 1 := TF.mk' (k := 0) Try.underlying66 rfl rfl (TS.h (P := Try.prog) (t := 5))
instance : TFV Try.prog 66 1 1 1 false := TFV.mk' Try.underlying66 rfl rfl (TS.h (P := Try.prog) (t := 5)) (TA.h (P := Try.prog) (t := 5))
instance : TQ Try.prog 66 [.int .u8, .int .u8] := ⟨⟨_, Try.underlying66, by kernel_rfl, by kernel_rfl, ⟨by decide, rfl, Try.isAgg5, Try.underlying5, ⟨by decide, rfl, Try.isAgg5, Try.underlying5, trivial⟩⟩⟩⟩
instance : TPl Try.prog 66 [(0, 1), (1, 1)] := ⟨_, Try.underlying66, fun w => by simp [TS.h (P := Try.prog) (t := 5)]⟩
instance : TC Try.prog 3 Try.f3 := ⟨Try.func3, ⟨_, rfl⟩, by kernel_rfl⟩
instance : TC Try.prog 4 Try.f4 := ⟨Try.func4, ⟨_, rfl⟩, by kernel_rfl⟩
instance : TC Try.prog 5 Try.f5 := ⟨Try.func5, ⟨_, rfl⟩, by kernel_rfl⟩
instance : TC Try.prog 6 Try.f6 := ⟨Try.func6, ⟨_, rfl⟩, by kernel_rfl⟩
instance : TC Try.prog 7 Try.f7 := ⟨Try.func7, ⟨_, rfl⟩, by kernel_rfl⟩
instance : TC Try.prog 8 Try.f8 := ⟨Try.func8, ⟨_, rfl⟩, by kernel_rfl⟩
instance : TC Try.prog 9 Try.f9 := ⟨Try.func9, ⟨_, rfl⟩, by kernel_rfl⟩
instance : TC Try.prog 10 Try.f10 := ⟨Try.func10, ⟨_, rfl⟩, by kernel_rfl⟩
instance : TC Try.prog 11 Try.f11 := ⟨Try.func11, ⟨_, rfl⟩, by kernel_rfl⟩
instance : TC Try.prog 12 Try.f12 := ⟨Try.func12, ⟨_, rfl⟩, by kernel_rfl⟩
instance : TC Try.prog 13 Try.f13 := ⟨Try.func13, ⟨_, rfl⟩, by kernel_rfl⟩
instance : TC Try.prog 14 Try.f14 := ⟨Try.func14, ⟨_, rfl⟩, by kernel_rfl⟩
instance : TC Try.prog 15 Try.f15 := ⟨Try.func15, ⟨_, rfl⟩, by kernel_rfl⟩
instance : TC Try.prog 16 Try.f16 := ⟨Try.func16, ⟨_, rfl⟩, by kernel_rfl⟩
instance : TC Try.prog 17 Try.f17 := ⟨Try.func17, ⟨_, rfl⟩, by kernel_rfl⟩
instance : TC Try.prog 18 Try.f18 := ⟨Try.func18, ⟨_, rfl⟩, by kernel_rfl⟩
instance : TC Try.prog 19 Try.f19 := ⟨Try.func19, ⟨_, rfl⟩, by kernel_rfl⟩
instance : TC Try.prog 20 Try.f20 := ⟨Try.func20, ⟨_, rfl⟩, by kernel_rfl⟩
instance : TC Try.prog 21 Try.f21 := ⟨Try.func21, ⟨_, rfl⟩, by kernel_rfl⟩
instance : TC Try.prog 22 Try.f22 := ⟨Try.func22, ⟨_, rfl⟩, by kernel_rfl⟩
instance : TC Try.prog 23 Try.f23 := ⟨Try.func23, ⟨_, rfl⟩, by kernel_rfl⟩
instance : TC Try.prog 24 Try.f24 := ⟨Try.func24, ⟨_, rfl⟩, by kernel_rfl⟩
instance : TC Try.prog 25 Try.f25 := ⟨Try.func25, ⟨_, rfl⟩, by kernel_rfl⟩
instance : TC Try.prog 26 Try.f26 := ⟨Try.func26, ⟨_, rfl⟩, by kernel_rfl⟩
instance : TC Try.prog 27 Try.f27 := ⟨Try.func27, ⟨_, rfl⟩, by kernel_rfl⟩
instance : TC Try.prog 28 Try.f28 := ⟨Try.func28, ⟨_, rfl⟩, by kernel_rfl⟩
instance : TC Try.prog 29 Try.f29 := ⟨Try.func29, ⟨_, rfl⟩, by kernel_rfl⟩
instance : TC Try.prog 30 Try.f30 := ⟨Try.func30, ⟨_, rfl⟩, by kernel_rfl⟩
instance : TC Try.prog 31 Try.f31 := ⟨Try.func31, ⟨_, rfl⟩, by kernel_rfl⟩
instance : TC Try.prog 32 Try.f32 := ⟨Try.func32, ⟨_, rfl⟩, by kernel_rfl⟩
instance : TC Try.prog 33 Try.f33 := ⟨Try.func33, ⟨_, rfl⟩, by kernel_rfl⟩
instance : TC Try.prog 34 Try.f34 := ⟨Try.func34, ⟨_, rfl⟩, by kernel_rfl⟩
instance : TC Try.prog 35 Try.f35 := ⟨Try.func35, ⟨_, rfl⟩, by kernel_rfl⟩
instance : TC Try.prog 36 Try.f36 := ⟨Try.func36, ⟨_, rfl⟩, by kernel_rfl⟩
instance : TC Try.prog 37 Try.f37 := ⟨Try.func37, ⟨_, rfl⟩, by kernel_rfl⟩
instance : TC Try.prog 38 Try.f38 := ⟨Try.func38, ⟨_, rfl⟩, by kernel_rfl⟩
instance : TC Try.prog 39 Try.f39 := ⟨Try.func39, ⟨_, rfl⟩, by kernel_rfl⟩
instance : TC Try.prog 40 Try.f40 := ⟨Try.func40, ⟨_, rfl⟩, by kernel_rfl⟩
instance : TC Try.prog 41 Try.f41 := ⟨Try.func41, ⟨_, rfl⟩, by kernel_rfl⟩
instance : TC Try.prog 42 Try.f42 := ⟨Try.func42, ⟨_, rfl⟩, by kernel_rfl⟩
instance : TC Try.prog 43 Try.f43 := ⟨Try.func43, ⟨_, rfl⟩, by kernel_rfl⟩
instance : TC Try.prog 44 Try.f44 := ⟨Try.func44, ⟨_, rfl⟩, by kernel_rfl⟩
instance : TC Try.prog 45 Try.f45 := ⟨Try.func45, ⟨_, rfl⟩, by kernel_rfl⟩
instance : TC Try.prog 46 Try.f46 := ⟨Try.func46, ⟨_, rfl⟩, by kernel_rfl⟩
instance : TC Try.prog 47 Try.f47 := ⟨Try.func47, ⟨_, rfl⟩, by kernel_rfl⟩
instance : TC Try.prog 48 Try.f48 := ⟨Try.func48, ⟨_, rfl⟩, by kernel_rfl⟩
instance : TC Try.prog 49 Try.f49 := ⟨Try.func49, ⟨_, rfl⟩, by kernel_rfl⟩
instance : TC Try.prog 50 Try.f50 := ⟨Try.func50, ⟨_, rfl⟩, by kernel_rfl⟩
instance : TC Try.prog 51 Try.f51 := ⟨Try.func51, ⟨_, rfl⟩, by kernel_rfl⟩
instance : TC Try.prog 52 Try.f52 := ⟨Try.func52, ⟨_, rfl⟩, by kernel_rfl⟩
instance : TC Try.prog 53 Try.f53 := ⟨Try.func53, ⟨_, rfl⟩, by kernel_rfl⟩
instance : TC Try.prog 54 Try.f54 := ⟨Try.func54, ⟨_, rfl⟩, by kernel_rfl⟩
instance : TC Try.prog 55 Try.f55 := ⟨Try.func55, ⟨_, rfl⟩, by kernel_rfl⟩
instance : TC Try.prog 56 Try.f56 := ⟨Try.func56, ⟨_, rfl⟩, by kernel_rfl⟩
end Go.Proofs.Ytgkejkfodigdiaa
