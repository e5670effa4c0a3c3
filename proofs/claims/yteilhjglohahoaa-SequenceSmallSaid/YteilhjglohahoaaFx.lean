/- Closed facts of the program: written by a program (facts.py). -/
import Derived.Test.YteilhjglohahoaaRows
import Derived.Test.YteilhjglohahoaaSxI
namespace Go.Proofs.Yteilhjglohahoaa
open Go Go.Sx

instance : TU Try.prog 3 (.int .i64) := ⟨Try.underlying3⟩
instance : TS Try.prog 3 1 := ⟨fun w => by simp only [sizeOf, Sem.run_bind, Try.typeInfo3]; rfl⟩
instance : TBy Try.prog 3 8 := ⟨fun w => ⟨_, Try.typeInfo3 w, rfl⟩⟩
instance : TA Try.prog 3 false := ⟨Try.isAgg3⟩
instance : TZ Try.prog 3 (.int .i64 (0)) [(.int .i64 (0))] := ⟨Try.zeroValue3, rfl⟩
instance : TU Try.prog 4 .bool := ⟨Try.underlying4⟩
instance : TS Try.prog 4 1 := ⟨fun w => by simp only [sizeOf, Sem.run_bind, Try.typeInfo4]; rfl⟩
instance : TBy Try.prog 4 1 := ⟨fun w => ⟨_, Try.typeInfo4 w, rfl⟩⟩
instance : TA Try.prog 4 false := ⟨Try.isAgg4⟩
instance : TZ Try.prog 4 (.bool false) [(.bool false)] := ⟨Try.zeroValue4, rfl⟩
instance : TU Try.prog 5 (.int .u8) := ⟨Try.underlying5⟩
instance : TS Try.prog 5 1 := ⟨fun w => by simp only [sizeOf, Sem.run_bind, Try.typeInfo5]; rfl⟩
instance : TBy Try.prog 5 1 := ⟨fun w => ⟨_, Try.typeInfo5 w, rfl⟩⟩
instance : TA Try.prog 5 false := ⟨Try.isAgg5⟩
instance : TZ Try.prog 5 (.int .u8 (0)) [(.int .u8 (0))] := ⟨Try.zeroValue5, rfl⟩
instance : TU Try.prog 9 .string := ⟨Try.underlying9⟩
instance : TS Try.prog 9 1 := ⟨fun w => by simp only [sizeOf, Sem.run_bind, Try.typeInfo9]; rfl⟩
instance : TBy Try.prog 9 16 := ⟨fun w => ⟨_, Try.typeInfo9 w, rfl⟩⟩
instance : TA Try.prog 9 false := ⟨Try.isAgg9⟩
instance : TZ Try.prog 9 (.string ⟨#[]⟩) [(.string ⟨#[]⟩)] := ⟨Try.zeroValue9, rfl⟩
instance : TU Try.prog 24 (.slice 3) := ⟨Try.underlying24⟩
instance : TS Try.prog 24 1 := ⟨fun w => by simp only [sizeOf, Sem.run_bind, Try.typeInfo24]; rfl⟩
instance : TBy Try.prog 24 24 := ⟨fun w => ⟨_, Try.typeInfo24 w, rfl⟩⟩
instance : TA Try.prog 24 false := ⟨Try.isAgg24⟩
instance : TZ Try.prog 24 (.slice none 0 0) [(.slice none 0 0)] := ⟨Try.zeroValue24, rfl⟩
instance : TS Try.prog 27 2 := ⟨fun w => by simp only [sizeOf, Sem.run_bind, Try.typeInfo27]; rfl⟩
instance : TBy Try.prog 27 16 := ⟨fun w => ⟨_, Try.typeInfo27 w, rfl⟩⟩
instance : TA Try.prog 27 true := ⟨Try.isAgg27⟩
instance : TZ Try.prog 27 (.agg #[(.int .i64 (0)), (.int .i64 (0))]) [(.int .i64 (0)), (.int .i64 (0))] := ⟨Try.zeroValue27, rfl⟩
instance : TU Try.prog 28 (.slice 27) := ⟨Try.underlying28⟩
instance : TS Try.prog 28 1 := ⟨fun w => by simp only [sizeOf, Sem.run_bind, Try.typeInfo28]; rfl⟩
instance : TBy Try.prog 28 24 := ⟨fun w => ⟨_, Try.typeInfo28 w, rfl⟩⟩
instance : TA Try.prog 28 false := ⟨Try.isAgg28⟩
instance : TZ Try.prog 28 (.slice none 0 0) [(.slice none 0 0)] := ⟨Try.zeroValue28, rfl⟩
instance : TU Try.prog 29 (.slice 76) := ⟨Try.underlying29⟩
instance : TS Try.prog 29 1 := ⟨fun w => by simp only [sizeOf, Sem.run_bind, Try.typeInfo29]; rfl⟩
instance : TBy Try.prog 29 24 := ⟨fun w => ⟨_, Try.typeInfo29 w, rfl⟩⟩
instance : TA Try.prog 29 false := ⟨Try.isAgg29⟩
instance : TZ Try.prog 29 (.slice none 0 0) [(.slice none 0 0)] := ⟨Try.zeroValue29, rfl⟩
instance : TS Try.prog 31 4 := ⟨fun w => by simp only [sizeOf, Sem.run_bind, Try.typeInfo31]; rfl⟩
instance : TBy Try.prog 31 96 := ⟨fun w => ⟨_, Try.typeInfo31 w, rfl⟩⟩
instance : TA Try.prog 31 true := ⟨Try.isAgg31⟩
instance : TZ Try.prog 31 (.agg #[(.slice none 0 0), (.slice none 0 0), (.slice none 0 0), (.slice none 0 0)]) [(.slice none 0 0), (.slice none 0 0), (.slice none 0 0), (.slice none 0 0)] := ⟨Try.zeroValue31, rfl⟩
instance : TU Try.prog 34 (.slice 75) := ⟨Try.underlying34⟩
instance : TS Try.prog 34 1 := ⟨fun w => by simp only [sizeOf, Sem.run_bind, Try.typeInfo34]; rfl⟩
instance : TBy Try.prog 34 24 := ⟨fun w => ⟨_, Try.typeInfo34 w, rfl⟩⟩
instance : TA Try.prog 34 false := ⟨Try.isAgg34⟩
instance : TZ Try.prog 34 (.slice none 0 0) [(.slice none 0 0)] := ⟨Try.zeroValue34, rfl⟩
instance : TU Try.prog 36 (.slice 60) := ⟨Try.underlying36⟩
instance : TS Try.prog 36 1 := ⟨fun w => by simp only [sizeOf, Sem.run_bind, Try.typeInfo36]; rfl⟩
instance : TBy Try.prog 36 24 := ⟨fun w => ⟨_, Try.typeInfo36 w, rfl⟩⟩
instance : TA Try.prog 36 false := ⟨Try.isAgg36⟩
instance : TZ Try.prog 36 (.slice none 0 0) [(.slice none 0 0)] := ⟨Try.zeroValue36, rfl⟩
instance : TS Try.prog 38 4 := ⟨fun w => by simp only [sizeOf, Sem.run_bind, Try.typeInfo38]; rfl⟩
instance : TBy Try.prog 38 96 := ⟨fun w => ⟨_, Try.typeInfo38 w, rfl⟩⟩
instance : TA Try.prog 38 true := ⟨Try.isAgg38⟩
instance : TZ Try.prog 38 (.agg #[(.slice none 0 0), (.slice none 0 0), (.slice none 0 0), (.slice none 0 0)]) [(.slice none 0 0), (.slice none 0 0), (.slice none 0 0), (.slice none 0 0)] := ⟨Try.zeroValue38, rfl⟩
instance : TU Try.prog 39 (.int .i64) := ⟨Try.underlying39⟩
instance : TS Try.prog 39 1 := ⟨fun w => by simp only [sizeOf, Sem.run_bind, Try.typeInfo39]; rfl⟩
instance : TBy Try.prog 39 8 := ⟨fun w => ⟨_, Try.typeInfo39 w, rfl⟩⟩
instance : TA Try.prog 39 false := ⟨Try.isAgg39⟩
instance : TZ Try.prog 39 (.int .i64 (0)) [(.int .i64 (0))] := ⟨Try.zeroValue39, rfl⟩
instance : TU Try.prog 44 (.slice 5) := ⟨Try.underlying44⟩
instance : TS Try.prog 44 1 := ⟨fun w => by simp only [sizeOf, Sem.run_bind, Try.typeInfo44]; rfl⟩
instance : TBy Try.prog 44 24 := ⟨fun w => ⟨_, Try.typeInfo44 w, rfl⟩⟩
instance : TA Try.prog 44 false := ⟨Try.isAgg44⟩
instance : TZ Try.prog 44 (.slice none 0 0) [(.slice none 0 0)] := ⟨Try.zeroValue44, rfl⟩
instance : TU Try.prog 48 (.slice 24) := ⟨Try.underlying48⟩
instance : TS Try.prog 48 1 := ⟨fun w => by simp only [sizeOf, Sem.run_bind, Try.typeInfo48]; rfl⟩
instance : TBy Try.prog 48 24 := ⟨fun w => ⟨_, Try.typeInfo48 w, rfl⟩⟩
instance : TA Try.prog 48 false := ⟨Try.isAgg48⟩
instance : TZ Try.prog 48 (.slice none 0 0) [(.slice none 0 0)] := ⟨Try.zeroValue48, rfl⟩
instance : TS Try.prog 50 3 := ⟨fun w => by simp only [sizeOf, Sem.run_bind, Try.typeInfo50]; rfl⟩
instance : TBy Try.prog 50 72 := ⟨fun w => ⟨_, Try.typeInfo50 w, rfl⟩⟩
instance : TA Try.prog 50 true := ⟨Try.isAgg50⟩
instance : TZ Try.prog 50 (.agg #[(.slice none 0 0), (.slice none 0 0), (.slice none 0 0)]) [(.slice none 0 0), (.slice none 0 0), (.slice none 0 0)] := ⟨Try.zeroValue50, rfl⟩
instance : TU Try.prog 55 (.int .u16) := ⟨Try.underlying55⟩
instance : TS Try.prog 55 1 := ⟨fun w => by simp only [sizeOf, Sem.run_bind, Try.typeInfo55]; rfl⟩
instance : TBy Try.prog 55 2 := ⟨fun w => ⟨_, Try.typeInfo55 w, rfl⟩⟩
instance : TA Try.prog 55 false := ⟨Try.isAgg55⟩
instance : TZ Try.prog 55 (.int .u16 (0)) [(.int .u16 (0))] := ⟨Try.zeroValue55, rfl⟩
instance : TS Try.prog 60 4 := ⟨fun w => by simp only [sizeOf, Sem.run_bind, Try.typeInfo60]; rfl⟩
instance : TBy Try.prog 60 32 := ⟨fun w => ⟨_, Try.typeInfo60 w, rfl⟩⟩
instance : TA Try.prog 60 true := ⟨Try.isAgg60⟩
instance : TZ Try.prog 60 (.agg #[(.int .i64 (0)), (.int .i64 (0)), (.int .i64 (0)), (.int .i64 (0))]) [(.int .i64 (0)), (.int .i64 (0)), (.int .i64 (0)), (.int .i64 (0))] := ⟨Try.zeroValue60, rfl⟩
instance : TS Try.prog 71 3 := ⟨fun w => by simp only [sizeOf, Sem.run_bind, Try.typeInfo71]; rfl⟩
instance : TBy Try.prog 71 72 := ⟨fun w => ⟨_, Try.typeInfo71 w, rfl⟩⟩
instance : TA Try.prog 71 true := ⟨Try.isAgg71⟩
instance : TZ Try.prog 71 (.agg #[(.slice none 0 0), (.slice none 0 0), (.slice none 0 0)]) [(.slice none 0 0), (.slice none 0 0), (.slice none 0 0)] := ⟨Try.zeroValue71, rfl⟩
instance : TS Try.prog 75 2 := ⟨fun w => by simp only [sizeOf, Sem.run_bind, Try.typeInfo75]; rfl⟩
instance : TBy Try.prog 75 16 := ⟨fun w => ⟨_, Try.typeInfo75 w, rfl⟩⟩
instance : TA Try.prog 75 true := ⟨Try.isAgg75⟩
instance : TZ Try.prog 75 (.agg #[(.int .i64 (0)), (.int .i64 (0))]) [(.int .i64 (0)), (.int .i64 (0))] := ⟨Try.zeroValue75, rfl⟩
instance : TS Try.prog 76 4 := ⟨fun w => by simp only [sizeOf, Sem.run_bind, Try.typeInfo76]; rfl⟩
instance : TBy Try.prog 76 32 := ⟨fun w => ⟨_, Try.typeInfo76 w, rfl⟩⟩
instance : TA Try.prog 76 true := ⟨Try.isAgg76⟩
instance : TZ Try.prog 76 (.agg #[(.int .i64 (0)), (.int .i64 (0)), (.int .i64 (0)), (.int .i64 (0))]) [(.int .i64 (0)), (.int .i64 (0)), (.int .i64 (0)), (.int .i64 (0))] := ⟨Try.zeroValue76, rfl⟩
instance : TU Try.prog 86 (.func #[99] #[] false) := ⟨Try.underlying86⟩
instance : TS Try.prog 86 1 := ⟨fun w => by simp only [sizeOf, Sem.run_bind, Try.typeInfo86]; rfl⟩
instance : TBy Try.prog 86 8 := ⟨fun w => ⟨_, Try.typeInfo86 w, rfl⟩⟩
instance : TA Try.prog 86 false := ⟨Try.isAgg86⟩
instance : TZ Try.prog 86 .nilFunc [.nilFunc] := ⟨Try.zeroValue86, rfl⟩
instance : TU Try.prog 87 (.func #[99] #[] false) := ⟨Try.underlying87⟩
instance : TS Try.prog 87 1 := ⟨fun w => by simp only [sizeOf, Sem.run_bind, Try.typeInfo87]; rfl⟩
instance : TBy Try.prog 87 8 := ⟨fun w => ⟨_, Try.typeInfo87 w, rfl⟩⟩
instance : TA Try.prog 87 false := ⟨Try.isAgg87⟩
instance : TZ Try.prog 87 .nilFunc [.nilFunc] := ⟨Try.zeroValue87, rfl⟩
instance : TU Try.prog 91 (.map 3 60) := ⟨Try.underlying91⟩
instance : TS Try.prog 91 1 := ⟨fun w => by simp only [sizeOf, Sem.run_bind, Try.typeInfo91]; rfl⟩
instance : TBy Try.prog 91 8 := ⟨fun w => ⟨_, Try.typeInfo91 w, rfl⟩⟩
instance : TA Try.prog 91 false := ⟨Try.isAgg91⟩
instance : TZ Try.prog 91 (.map none) [(.map none)] := ⟨Try.zeroValue91, rfl⟩
instance : TU Try.prog 93 (.func #[60] #[3] false) := ⟨Try.underlying93⟩
instance : TS Try.prog 93 1 := ⟨fun w => by simp only [sizeOf, Sem.run_bind, Try.typeInfo93]; rfl⟩
instance : TBy Try.prog 93 8 := ⟨fun w => ⟨_, Try.typeInfo93 w, rfl⟩⟩
instance : TA Try.prog 93 false := ⟨Try.isAgg93⟩
instance : TZ Try.prog 93 .nilFunc [.nilFunc] := ⟨Try.zeroValue93, rfl⟩
instance : TU Try.prog 95 (.func #[24, 93] #[48, 24] false) := ⟨Try.underlying95⟩
instance : TS Try.prog 95 1 := ⟨fun w => by simp only [sizeOf, Sem.run_bind, Try.typeInfo95]; rfl⟩
instance : TBy Try.prog 95 8 := ⟨fun w => ⟨_, Try.typeInfo95 w, rfl⟩⟩
instance : TA Try.prog 95 false := ⟨Try.isAgg95⟩
instance : TZ Try.prog 95 .nilFunc [.nilFunc] := ⟨Try.zeroValue95, rfl⟩
instance : TU Try.prog 98 (.map 3 4) := ⟨Try.underlying98⟩
instance : TS Try.prog 98 1 := ⟨fun w => by simp only [sizeOf, Sem.run_bind, Try.typeInfo98]; rfl⟩
instance : TBy Try.prog 98 8 := ⟨fun w => ⟨_, Try.typeInfo98 w, rfl⟩⟩
instance : TA Try.prog 98 false := ⟨Try.isAgg98⟩
instance : TZ Try.prog 98 (.map none) [(.map none)] := ⟨Try.zeroValue98, rfl⟩
instance : TU Try.prog 99 (.func #[60] #[4] false) := ⟨Try.underlying99⟩
instance : TS Try.prog 99 1 := ⟨fun w => by simp only [sizeOf, Sem.run_bind, Try.typeInfo99]; rfl⟩
instance : TBy Try.prog 99 8 := ⟨fun w => ⟨_, Try.typeInfo99 w, rfl⟩⟩
instance : TA Try.prog 99 false := ⟨Try.isAgg99⟩
instance : TZ Try.prog 99 .nilFunc [.nilFunc] := ⟨Try.zeroValue99, rfl⟩
instance : TU Try.prog 100 (.map 3 3) := ⟨Try.underlying100⟩
instance : TS Try.prog 100 1 := ⟨fun w => by simp only [sizeOf, Sem.run_bind, Try.typeInfo100]; rfl⟩
instance : TBy Try.prog 100 8 := ⟨fun w => ⟨_, Try.typeInfo100 w, rfl⟩⟩
instance : TA Try.prog 100 false := ⟨Try.isAgg100⟩
instance : TZ Try.prog 100 (.map none) [(.map none)] := ⟨Try.zeroValue100, rfl⟩
instance : TE Try.prog 3 1 8 (.int .i64 (0)) := ⟨⟨Try.t3, by kernel_rfl, rfl, rfl, rfl⟩⟩
instance : TE Try.prog 5 1 1 (.int .u8 (0)) := ⟨⟨Try.t5, by kernel_rfl, rfl, rfl, rfl⟩⟩
instance : TE Try.prog 24 1 24 (.slice none 0 0) := ⟨⟨Try.t24, by kernel_rfl, rfl, rfl, rfl⟩⟩
instance : TE Try.prog 27 2 16 (.agg #[(.int .i64 (0)), (.int .i64 (0))]) := ⟨⟨Try.t27, by kernel_rfl, rfl, rfl, rfl⟩⟩
instance : TE Try.prog 60 4 32 (.agg #[(.int .i64 (0)), (.int .i64 (0)), (.int .i64 (0)), (.int .i64 (0))]) := ⟨⟨Try.t60, by kernel_rfl, rfl, rfl, rfl⟩⟩
instance : TE Try.prog 75 2 16 (.agg #[(.int .i64 (0)), (.int .i64 (0))]) := ⟨⟨Try.t75, by kernel_rfl, rfl, rfl, rfl⟩⟩
instance : TE Try.prog 76 4 32 (.agg #[(.int .i64 (0)), (.int .i64 (0)), (.int .i64 (0)), (.int .i64 (0))]) := ⟨⟨Try.t76, by kernel_rfl, rfl, rfl, rfl⟩⟩
instance : TF Try.prog 27 0 0 := TF.mk' (k := 0) Try.underlying27 rfl rfl (TS.h (P := Try.prog) (t := 3))
instance : TFV Try.prog 27 0 0 1 false := TFV.mk' Try.underlying27 rfl rfl (TS.h (P := Try.prog) (t := 3)) (TA.h (P := Try.prog) (t := 3))
instance : TF Try.prog 27 1 1 := TF.mk' (k := 0) Try.underlying27 rfl rfl (TS.h (P := Try.prog) (t := 3))
instance : TFV Try.prog 27 1 1 1 false := TFV.mk' Try.underlying27 rfl rfl (TS.h (P := Try.prog) (t := 3)) (TA.h (P := Try.prog) (t := 3))
instance : TQ Try.prog 27 [.int .i64, .int .i64] := ⟨⟨_, Try.underlying27, by kernel_rfl, by kernel_rfl, ⟨by decide, rfl, Try.isAgg3, Try.underlying3, ⟨by decide, rfl, Try.isAgg3, Try.underlying3, trivial⟩⟩⟩⟩
instance : TPl Try.prog 27 [(0, 1), (1, 1)] := ⟨_, Try.underlying27, fun w => by simp [TS.h (P := Try.prog) (t := 3)]⟩
instance : TF Try.prog 31 0 0 := TF.mk' (k := 0) Try.underlying31 rfl rfl (TS.h (P := Try.prog) (t := 24))
instance : TFV Try.prog 31 0 0 1 false := TFV.mk' Try.underlying31 rfl rfl (TS.h (P := Try.prog) (t := 24)) (TA.h (P := Try.prog) (t := 24))
instance : TF Try.prog 31 1 1 := TF.mk' (k := 0) Try.underlying31 rfl rfl (TS.h (P := Try.prog) (t := 29))
instance : TFV Try.prog 31 1 1 1 false := TFV.mk' Try.underlying31 rfl rfl (TS.h (P := Try.prog) (t := 29)) (TA.h (P := Try.prog) (t := 29))
instance : TF Try.prog 31 2 2 := TF.mk' (k := 0) Try.underlying31 rfl rfl (TS.h (P := Try.prog) (t := 24))
instance : TFV Try.prog 31 2 2 1 false := TFV.mk' Try.underlying31 rfl rfl (TS.h (P := Try.prog) (t := 24)) (TA.h (P := Try.prog) (t := 24))
instance : TF Try.prog 31 3 3 := TF.mk' (k := 0) Try.underlying31 rfl rfl (TS.h (P := Try.prog) (t := 24))
instance : TFV Try.prog 31 3 3 1 false := TFV.mk' Try.underlying31 rfl rfl (TS.h (P := Try.prog) (t := 24)) (TA.h (P := Try.prog) (t := 24))
instance : TPl Try.prog 31 [(0, 1), (1, 1), (2, 1), (3, 1)] := ⟨_, Try.underlying31, fun w => by simp [TS.h (P := Try.prog) (t := 24), TS.h (P := Try.prog) (t := 29)]⟩
instance : TF Try.prog 38 0 0 := TF.mk' (k := 0) Try.underlying38 rfl rfl (TS.h (P := Try.prog) (t := 24))
instance : TFV Try.prog 38 0 0 1 false := TFV.mk' Try.underlying38 rfl rfl (TS.h (P := Try.prog) (t := 24)) (TA.h (P := Try.prog) (t := 24))
instance : TF Try.prog 38 1 1 := TF.mk' (k := 0) Try.underlying38 rfl rfl (TS.h (P := Try.prog) (t := 36))
instance : TFV Try.prog 38 1 1 1 false := TFV.mk' Try.underlying38 rfl rfl (TS.h (P := Try.prog) (t := 36)) (TA.h (P := Try.prog) (t := 36))
instance : TF Try.prog 38 2 2 := TF.mk' (k := 0) Try.underlying38 rfl rfl (TS.h (P := Try.prog) (t := 24))
instance : TFV Try.prog 38 2 2 1 false := TFV.mk' Try.underlying38 rfl rfl (TS.h (P := Try.prog) (t := 24)) (TA.h (P := Try.prog) (t := 24))
instance : TF Try.prog 38 3 3 := TF.mk' (k := 0) Try.underlying38 rfl rfl (TS.h (P := Try.prog) (t := 24))
instance : TFV Try.prog 38 3 3 1 false := TFV.mk' Try.underlying38 rfl rfl (TS.h (P := Try.prog) (t := 24)) (TA.h (P := Try.prog) (t := 24))
instance : TPl Try.prog 38 [(0, 1), (1, 1), (2, 1), (3, 1)] := ⟨_, Try.underlying38, fun w => by simp [TS.h (P := Try.prog) (t := 24), TS.h (P := Try.prog) (t := 36)]⟩
instance : TF Try.prog 50 0 0 := TF.mk' (k := 0) Try.underlying50 rfl rfl (TS.h (P := Try.prog) (t := 48))
instance : TFV Try.prog 50 0 0 1 false := TFV.mk' Try.underlying50 rfl rfl (TS.h (P := Try.prog) (t := 48)) (TA.h (P := Try.prog) (t := 48))
instance : TF Try.prog 50 1 1 := TF.mk' (k := 0) Try.underlying50 rfl rfl (TS.h (P := Try.prog) (t := 48))
instance : TFV Try.prog 50 1 1 1 false := TFV.mk' Try.underlying50 rfl rfl (TS.h (P := Try.prog) (t := 48)) (TA.h (P := Try.prog) (t := 48))
instance : TF Try.prog 50 2 2 := TF.mk' (k := 0) Try.underlying50 rfl rfl (TS.h (P := Try.prog) (t := 24))
instance : TFV Try.prog 50 2 2 1 false := TFV.mk' Try.underlying50 rfl rfl (TS.h (P := Try.prog) (t := 24)) (TA.h (P := Try.prog) (t := 24))
instance : TPl Try.prog 50 [(0, 1), (1, 1), (2, 1)] := ⟨_, Try.underlying50, fun w => by simp [TS.h (P := Try.prog) (t := 24), TS.h (P := Try.prog) (t := 48)]⟩
instance : TF Try.prog 60 0 0 := TF.mk' (k := 0) Try.underlying60 rfl rfl (TS.h (P := Try.prog) (t := 3))
instance : TFV Try.prog 60 0 0 1 false := TFV.mk' Try.underlying60 rfl rfl (TS.h (P := Try.prog) (t := 3)) (TA.h (P := Try.prog) (t := 3))
instance : TF Try.prog 60 1 1 := TF.mk' (k := 0) Try.underlying60 rfl rfl (TS.h (P := Try.prog) (t := 3))
instance : TFV Try.prog 60 1 1 1 false := TFV.mk' Try.underlying60 rfl rfl (TS.h (P := Try.prog) (t := 3)) (TA.h (P := Try.prog) (t := 3))
instance : TF Try.prog 60 2 2 := TF.mk' (k := 0) Try.underlying60 rfl rfl (TS.h (P := Try.prog) (t := 3))
instance : TFV Try.prog 60 2 2 1 false := TFV.mk' Try.underlying60 rfl rfl (TS.h (P := Try.prog) (t := 3)) (TA.h (P := Try.prog) (t := 3))
instance : TF Try.prog 60 3 3 := TF.mk' (k := 0) Try.underlying60 rfl rfl (TS.h (P := Try.prog) (t := 3))
instance : TFV Try.prog 60 3 3 1 false := TFV.mk' Try.underlying60 rfl rfl (TS.h (P := Try.prog) (t := 3)) (TA.h (P := Try.prog) (t := 3))
instance : TQ Try.prog 60 [.int .i64, .int .i64, .int .i64, .int .i64] := ⟨⟨_, Try.underlying60, by kernel_rfl, by kernel_rfl, ⟨by decide, rfl, Try.isAgg3, Try.underlying3, ⟨by decide, rfl, Try.isAgg3, Try.underlying3, ⟨by decide, rfl, Try.isAgg3, Try.underlying3, ⟨by decide, rfl, Try.isAgg3, Try.underlying3, trivial⟩⟩⟩⟩⟩⟩
instance : TPl Try.prog 60 [(0, 1), (1, 1), (2, 1), (3, 1)] := ⟨_, Try.underlying60, fun w => by simp [TS.h (P := Try.prog) (t := 3)]⟩
instance : TF Try.prog 71 0 0 := TF.mk' (k := 0) Try.underlying71 rfl rfl (TS.h (P := Try.prog) (t := 48))
instance : TFV Try.prog 71 0 0 1 false := TFV.mk' Try.underlying71 rfl rfl (TS.h (P := Try.prog) (t := 48)) (TA.h (P := Try.prog) (t := 48))
instance : TF Try.prog 71 1 1 := TF.mk' (k := 0) Try.underlying71 rfl rfl (TS.h (P := Try.prog) (t := 48))
instance : TFV Try.prog 71 1 1 1 false := TFV.mk' Try.underlying71 rfl rfl (TS.h (P := Try.prog) (t := 48)) (TA.h (P := Try.prog) (t := 48))
instance : TF Try.prog 71 2 2 := TF.mk' (k := 0) Try.underlying71 rfl rfl (TS.h (P := Try.prog) (t := 24))
instance : TFV Try.prog 71 2 2 1 false := TFV.mk' Try.underlying71 rfl rfl (TS.h (P := Try.prog) (t := 24)) (TA.h (P := Try.prog) (t := 24))
instance : TPl Try.prog 71 [(0, 1), (1, 1), (2, 1)] := ⟨_, Try.underlying71, fun w => by simp [TS.h (P := Try.prog) (t := 24), TS.h (P := Try.prog) (t := 48)]⟩
instance : TF Try.prog 75 0 0 := TF.mk' (k := 0) Try.underlying75 rfl rfl (TS.h (P := Try.prog) (t := 3))
instance : TFV Try.prog 75 0 0 1 false := TFV.mk' Try.underlying75 rfl rfl (TS.h (P := Try.prog) (t := 3)) (TA.h (P := Try.prog) (t := 3))
instance : TF Try.prog 75 1 1 := TF.mk' (k := 0) Try.underlying75 rfl rfl (TS.h (P := Try.prog) (t := 3))
instance : TFV Try.prog 75 1 1 1 false := TFV.mk' Try.underlying75 rfl rfl (TS.h (P := Try.prog) (t := 3)) (TA.h (P := Try.prog) (t := 3))
instance : TQ Try.prog 75 [.int .i64, .int .i64] := ⟨⟨_, Try.underlying75, by kernel_rfl, by kernel_rfl, ⟨by decide, rfl, Try.isAgg3, Try.underlying3, ⟨by decide, rfl, Try.isAgg3, Try.underlying3, trivial⟩⟩⟩⟩
instance : TPl Try.prog 75 [(0, 1), (1, 1)] := ⟨_, Try.underlying75, fun w => by simp [TS.h (P := Try.prog) (t := 3)]⟩
instance : TF Try.prog 76 0 0 := TF.mk' (k := 0) Try.underlying76 rfl rfl (TS.h (P := Try.prog) (t := 3))
instance : TFV Try.prog 76 0 0 1 false := TFV.mk' Try.underlying76 rfl rfl (TS.h (P := Try.prog) (t := 3)) (TA.h (P := Try.prog) (t := 3))
instance : TF Try.prog 76 1 1 := TF.mk' (k := 0) Try.underlying76 rfl rfl (TS.h (P := Try.prog) (t := 3))
instance : TFV Try.prog 76 1 1 1 false := TFV.mk' Try.underlying76 rfl rfl (TS.h (P := Try.prog) (t := 3)) (TA.h (P := Try.prog) (t := 3))
instance : TF Try.prog 76 2 2 := TF.mk' (k := 0) Try.underlying76 rfl rfl (TS.h (P := Try.prog) (t := 3))
instance : TFV Try.prog 76 2 2 1 false := TFV.mk' Try.underlying76 rfl rfl (TS.h (P := Try.prog) (t := 3)) (TA.h (P := Try.prog) (t := 3))
instance : TF Try.prog 76 3 3 := TF.mk' (k := 0) Try.underlying76 rfl rfl (TS.h (P := Try.prog) (t := 3))
instance : TFV Try.prog 76 3 3 1 false := TFV.mk' Try.underlying76 rfl rfl (TS.h (P := Try.prog) (t := 3)) (TA.h (P := Try.prog) (t := 3))
instance : TQ Try.prog 76 [.int .i64, .int .i64, .int .i64, .int .i64] := ⟨⟨_, Try.underlying76, by kernel_rfl, by kernel_rfl, ⟨by decide, rfl, Try.isAgg3, Try.underlying3, ⟨by decide, rfl, Try.isAgg3, Try.underlying3, ⟨by decide, rfl, Try.isAgg3, Try.underlying3, ⟨by decide, rfl, Try.isAgg3, Try.underlying3, trivial⟩⟩⟩⟩⟩⟩
instance : TPl Try.prog 76 [(0, 1), (1, 1), (2, 1), (3, 1)] := ⟨_, Try.underlying76, fun w => by simp [TS.h (P := Try.prog) (t := 3)]⟩
instance : TC Try.prog 3 Try.f3 := ⟨Try.func3, ⟨_, rfl⟩, by kernel_rfl⟩
instance : TC Try.prog 4 Try.f4 := ⟨Try.func4, ⟨_, rfl⟩, by kernel_rfl⟩
instance : TC Try.prog 5 Try.f5 := ⟨Try.func5, ⟨_, rfl⟩, by kernel_rfl⟩
instance : TC Try.prog 6 Try.f6 := ⟨Try.func6, ⟨_, rfl⟩, by kernel_rfl⟩
instance : TC Try.prog 7 Try.f7 := ⟨Try.func7, ⟨_, rfl⟩, by kernel_rfl⟩
instance : TC Try.prog 8 Try.f8 := ⟨Try.func8, ⟨_, rfl⟩, by kernel_rfl⟩
instance : TC Try.prog 9 Try.f9 := ⟨Try.func9, ⟨_, rfl⟩, by kernel_rfl⟩
instance : TC Try.prog 10 Try.f10 := ⟨Try.func10, ⟨_, rfl⟩, by kernel_rfl⟩
instance : TC Try.prog 11 Try.f11 := ⟨Try.func11, ⟨_, rfl⟩, by kernel_rfl⟩
instance : TC Try.prog 12 Try.f12 := ⟨Try.func12, ⟨_, rfl⟩, by kernel_rfl⟩
instance : TC Try.prog 13 Try.f13 := ⟨Try.func13, ⟨_, rfl⟩, by kernel_rfl⟩
instance : TC Try.prog 14 Try.f14 := ⟨Try.func14, ⟨_, rfl⟩, by kernel_rfl⟩
instance : TC Try.prog 15 Try.f15 := ⟨Try.func15, ⟨_, rfl⟩, by kernel_rfl⟩
instance : TC Try.prog 16 Try.f16 := ⟨Try.func16, ⟨_, rfl⟩, by kernel_rfl⟩
instance : TC Try.prog 17 Try.f17 := ⟨Try.func17, ⟨_, rfl⟩, by kernel_rfl⟩
instance : TC Try.prog 18 Try.f18 := ⟨Try.func18, ⟨_, rfl⟩, by kernel_rfl⟩
instance : TC Try.prog 19 Try.f19 := ⟨Try.func19, ⟨_, rfl⟩, by kernel_rfl⟩
instance : TC Try.prog 20 Try.f20 := ⟨Try.func20, ⟨_, rfl⟩, by kernel_rfl⟩
instance : TC Try.prog 21 Try.f21 := ⟨Try.func21, ⟨_, rfl⟩, by kernel_rfl⟩
instance : TC Try.prog 22 Try.f22 := ⟨Try.func22, ⟨_, rfl⟩, by kernel_rfl⟩
instance : TC Try.prog 23 Try.f23 := ⟨Try.func23, ⟨_, rfl⟩, by kernel_rfl⟩
instance : TC Try.prog 24 Try.f24 := ⟨Try.func24, ⟨_, rfl⟩, by kernel_rfl⟩
instance : TC Try.prog 25 Try.f25 := ⟨Try.func25, ⟨_, rfl⟩, by kernel_rfl⟩
instance : TC Try.prog 26 Try.f26 := ⟨Try.func26, ⟨_, rfl⟩, by kernel_rfl⟩
instance : TC Try.prog 27 Try.f27 := ⟨Try.func27, ⟨_, rfl⟩, by kernel_rfl⟩
instance : TC Try.prog 28 Try.f28 := ⟨Try.func28, ⟨_, rfl⟩, by kernel_rfl⟩
instance : TC Try.prog 29 Try.f29 := ⟨Try.func29, ⟨_, rfl⟩, by kernel_rfl⟩
instance : TC Try.prog 30 Try.f30 := ⟨Try.func30, ⟨_, rfl⟩, by kernel_rfl⟩
instance : TC Try.prog 31 Try.f31 := ⟨Try.func31, ⟨_, rfl⟩, by kernel_rfl⟩
instance : TC Try.prog 32 Try.f32 := ⟨Try.func32, ⟨_, rfl⟩, by kernel_rfl⟩
instance : TC Try.prog 33 Try.f33 := ⟨Try.func33, ⟨_, rfl⟩, by kernel_rfl⟩
instance : TC Try.prog 34 Try.f34 := ⟨Try.func34, ⟨_, rfl⟩, by kernel_rfl⟩
instance : TC Try.prog 35 Try.f35 := ⟨Try.func35, ⟨_, rfl⟩, by kernel_rfl⟩
instance : TC Try.prog 36 Try.f36 := ⟨Try.func36, ⟨_, rfl⟩, by kernel_rfl⟩
instance : TC Try.prog 37 Try.f37 := ⟨Try.func37, ⟨_, rfl⟩, by kernel_rfl⟩
instance : TC Try.prog 38 Try.f38 := ⟨Try.func38, ⟨_, rfl⟩, by kernel_rfl⟩
instance : TC Try.prog 39 Try.f39 := ⟨Try.func39, ⟨_, rfl⟩, by kernel_rfl⟩
instance : TC Try.prog 40 Try.f40 := ⟨Try.func40, ⟨_, rfl⟩, by kernel_rfl⟩
instance : TC Try.prog 41 Try.f41 := ⟨Try.func41, ⟨_, rfl⟩, by kernel_rfl⟩
instance : TC Try.prog 42 Try.f42 := ⟨Try.func42, ⟨_, rfl⟩, by kernel_rfl⟩
instance : TC Try.prog 43 Try.f43 := ⟨Try.func43, ⟨_, rfl⟩, by kernel_rfl⟩
instance : TC Try.prog 44 Try.f44 := ⟨Try.func44, ⟨_, rfl⟩, by kernel_rfl⟩
instance : TC Try.prog 45 Try.f45 := ⟨Try.func45, ⟨_, rfl⟩, by kernel_rfl⟩
instance : TC Try.prog 46 Try.f46 := ⟨Try.func46, ⟨_, rfl⟩, by kernel_rfl⟩
instance : TC Try.prog 47 Try.f47 := ⟨Try.func47, ⟨_, rfl⟩, by kernel_rfl⟩
instance : TC Try.prog 48 Try.f48 := ⟨Try.func48, ⟨_, rfl⟩, by kernel_rfl⟩
instance : TC Try.prog 49 Try.f49 := ⟨Try.func49, ⟨_, rfl⟩, by kernel_rfl⟩
instance : TC Try.prog 50 Try.f50 := ⟨Try.func50, ⟨_, rfl⟩, by kernel_rfl⟩
instance : TC Try.prog 51 Try.f51 := ⟨Try.func51, ⟨_, rfl⟩, by kernel_rfl⟩
end Go.Proofs.Yteilhjglohahoaa
