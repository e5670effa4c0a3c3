/- Closed facts of the program: written by a program (facts.py). -/
import Derived.Test.YtcocnhfbdcapbaaRows
import Derived.Test.YtcocnhfbdcapbaaSxI
namespace Go.Proofs.Ytcocnhfbdcapbaa
open Go Go.Sx

instance : TU Try.prog 3 (.int .i64) := ⟨Try.underlying3⟩
instance : TS Try.prog 3 1 := ⟨fun w => by simp only [sizeOf, Sem.run_bind, Try.typeInfo3]; rfl⟩
instance : TBy Try.prog 3 8 := ⟨fun w => ⟨_, Try.typeInfo3 w, rfl⟩⟩
instance : TA Try.prog 3 false := ⟨Try.isAgg3⟩
instance : TZ Try.prog 3 (.int .i64 (0)) [(.int .i64 (0))] := ⟨Try.zeroValue3, rfl⟩
instance : TU Try.prog 4 .bool := ⟨Try.underlying4⟩
instance : TS Try.prog 4 1 := ⟨fun w => by simp only [sizeOf, Sem.run_bind, Try.typeInfo4]; rfl⟩
instance : TBy Try.prog 4 1 := ⟨fun w => ⟨_, Try.typeInfo4 w, rfl⟩⟩
instance : TA Try.prog 4 false := ⟨Try.isAgg4⟩
instance : TZ Try.prog 4 (.bool false) [(.bool false)] := ⟨Try.zeroValue4, rfl⟩
instance : TU Try.prog 5 (.int .u8) := ⟨Try.underlying5⟩
instance : TS Try.prog 5 1 := ⟨fun w => by simp only [sizeOf, Sem.run_bind, Try.typeInfo5]; rfl⟩
instance : TBy Try.prog 5 1 := ⟨fun w => ⟨_, Try.typeInfo5 w, rfl⟩⟩
instance : TA Try.prog 5 false := ⟨Try.isAgg5⟩
instance : TZ Try.prog 5 (.int .u8 (0)) [(.int .u8 (0))] := ⟨Try.zeroValue5, rfl⟩
instance : TS Try.prog 23 8 := ⟨fun w => by simp only [sizeOf, Sem.run_bind, Try.typeInfo23]; rfl⟩
instance : TBy Try.prog 23 64 := ⟨fun w => ⟨_, Try.typeInfo23 w, rfl⟩⟩
instance : TA Try.prog 23 true := ⟨Try.isAgg23⟩
instance : TZ Try.prog 23 (.agg #[(.int .i64 (0)), (.int .i64 (0)), (.int .i64 (0)), (.int .i64 (0)), (.int .i64 (0)), (.int .i64 (0)), (.int .i64 (0)), (.int .u8 (0))]) [(.int .i64 (0)), (.int .i64 (0)), (.int .i64 (0)), (.int .i64 (0)), (.int .i64 (0)), (.int .i64 (0)), (.int .i64 (0)), (.int .u8 (0))] := ⟨Try.zeroValue23, rfl⟩
instance : TS Try.prog 28 2 := ⟨fun w => by simp only [sizeOf, Sem.run_bind, Try.typeInfo28]; rfl⟩
instance : TBy Try.prog 28 16 := ⟨fun w => ⟨_, Try.typeInfo28 w, rfl⟩⟩
instance : TA Try.prog 28 true := ⟨Try.isAgg28⟩
instance : TZ Try.prog 28 (.agg #[(.int .i64 (0)), (.int .i64 (0))]) [(.int .i64 (0)), (.int .i64 (0))] := ⟨Try.zeroValue28, rfl⟩
instance : TU Try.prog 33 (.slice 28) := ⟨Try.underlying33⟩
instance : TS Try.prog 33 1 := ⟨fun w => by simp only [sizeOf, Sem.run_bind, Try.typeInfo33]; rfl⟩
instance : TBy Try.prog 33 24 := ⟨fun w => ⟨_, Try.typeInfo33 w, rfl⟩⟩
instance : TA Try.prog 33 false := ⟨Try.isAgg33⟩
instance : TZ Try.prog 33 (.slice none 0 0) [(.slice none 0 0)] := ⟨Try.zeroValue33, rfl⟩
instance : TU Try.prog 34 (.int .i64) := ⟨Try.underlying34⟩
instance : TS Try.prog 34 1 := ⟨fun w => by simp only [sizeOf, Sem.run_bind, Try.typeInfo34]; rfl⟩
instance : TBy Try.prog 34 8 := ⟨fun w => ⟨_, Try.typeInfo34 w, rfl⟩⟩
instance : TA Try.prog 34 false := ⟨Try.isAgg34⟩
instance : TZ Try.prog 34 (.int .i64 (0)) [(.int .i64 (0))] := ⟨Try.zeroValue34, rfl⟩
instance : TU Try.prog 39 (.slice 3) := ⟨Try.underlying39⟩
instance : TS Try.prog 39 1 := ⟨fun w => by simp only [sizeOf, Sem.run_bind, Try.typeInfo39]; rfl⟩
instance : TBy Try.prog 39 24 := ⟨fun w => ⟨_, Try.typeInfo39 w, rfl⟩⟩
instance : TA Try.prog 39 false := ⟨Try.isAgg39⟩
instance : TZ Try.prog 39 (.slice none 0 0) [(.slice none 0 0)] := ⟨Try.zeroValue39, rfl⟩
instance : TU Try.prog 40 (.slice 23) := ⟨Try.underlying40⟩
instance : TS Try.prog 40 1 := ⟨fun w => by simp only [sizeOf, Sem.run_bind, Try.typeInfo40]; rfl⟩
instance : TBy Try.prog 40 24 := ⟨fun w => ⟨_, Try.typeInfo40 w, rfl⟩⟩
instance : TA Try.prog 40 false := ⟨Try.isAgg40⟩
instance : TZ Try.prog 40 (.slice none 0 0) [(.slice none 0 0)] := ⟨Try.zeroValue40, rfl⟩
instance : TS Try.prog 42 2 := ⟨fun w => by simp only [sizeOf, Sem.run_bind, Try.typeInfo42]; rfl⟩
instance : TBy Try.prog 42 48 := ⟨fun w => ⟨_, Try.typeInfo42 w, rfl⟩⟩
instance : TA Try.prog 42 true := ⟨Try.isAgg42⟩
instance : TZ Try.prog 42 (.agg #[(.slice none 0 0), (.slice none 0 0)]) [(.slice none 0 0), (.slice none 0 0)] := ⟨Try.zeroValue42, rfl⟩
instance : TS Try.prog 50 2 := ⟨fun w => by simp only [sizeOf, Sem.run_bind, Try.typeInfo50]; rfl⟩
instance : TBy Try.prog 50 16 := ⟨fun w => ⟨_, Try.typeInfo50 w, rfl⟩⟩
instance : TA Try.prog 50 true := ⟨Try.isAgg50⟩
instance : TZ Try.prog 50 (.agg #[(.int .i64 (0)), (.int .i64 (0))]) [(.int .i64 (0)), (.int .i64 (0))] := ⟨Try.zeroValue50, rfl⟩
instance : TU Try.prog 54 (.slice 50) := ⟨Try.underlying54⟩
instance : TS Try.prog 54 1 := ⟨fun w => by simp only [sizeOf, Sem.run_bind, Try.typeInfo54]; rfl⟩
instance : TBy Try.prog 54 24 := ⟨fun w => ⟨_, Try.typeInfo54 w, rfl⟩⟩
instance : TA Try.prog 54 false := ⟨Try.isAgg54⟩
instance : TZ Try.prog 54 (.slice none 0 0) [(.slice none 0 0)] := ⟨Try.zeroValue54, rfl⟩
instance : TS Try.prog 58 3 := ⟨fun w => by simp only [sizeOf, Sem.run_bind, Try.typeInfo58]; rfl⟩
instance : TBy Try.prog 58 24 := ⟨fun w => ⟨_, Try.typeInfo58 w, rfl⟩⟩
instance : TA Try.prog 58 true := ⟨Try.isAgg58⟩
instance : TZ Try.prog 58 (.agg #[(.int .i64 (0)), (.int .i64 (0)), (.int .i64 (0))]) [(.int .i64 (0)), (.int .i64 (0)), (.int .i64 (0))] := ⟨Try.zeroValue58, rfl⟩
instance : TU Try.prog 59 (.array 8 58) := ⟨Try.underlying59⟩
instance : TS Try.prog 59 24 := ⟨fun w => by simp only [sizeOf, Sem.run_bind, Try.typeInfo59]; rfl⟩
instance : TBy Try.prog 59 192 := ⟨fun w => ⟨_, Try.typeInfo59 w, rfl⟩⟩
instance : TA Try.prog 59 true := ⟨Try.isAgg59⟩
instance : TZ Try.prog 59 (.agg #[(.int .i64 (0)), (.int .i64 (0)), (.int .i64 (0)), (.int .i64 (0)), (.int .i64 (0)), (.int .i64 (0)), (.int .i64 (0)), (.int .i64 (0)), (.int .i64 (0)), (.int .i64 (0)), (.int .i64 (0)), (.int .i64 (0)), (.int .i64 (0)), (.int .i64 (0)), (.int .i64 (0)), (.int .i64 (0)), (.int .i64 (0)), (.int .i64 (0)), (.int .i64 (0)), (.int .i64 (0)), (.int .i64 (0)), (.int .i64 (0)), (.int .i64 (0)), (.int .i64 (0))]) [(.int .i64 (0)), (.int .i64 (0)), (.int .i64 (0)), (.int .i64 (0)), (.int .i64 (0)), (.int .i64 (0)), (.int .i64 (0)), (.int .i64 (0)), (.int .i64 (0)), (.int .i64 (0)), (.int .i64 (0)), (.int .i64 (0)), (.int .i64 (0)), (.int .i64 (0)), (.int .i64 (0)), (.int .i64 (0)), (.int .i64 (0)), (.int .i64 (0)), (.int .i64 (0)), (.int .i64 (0)), (.int .i64 (0)), (.int .i64 (0)), (.int .i64 (0)), (.int .i64 (0))] := ⟨Try.zeroValue59, rfl⟩
instance : TU Try.prog 60 (.func #[75] #[] false) := ⟨Try.underlying60⟩
instance : TS Try.prog 60 1 := ⟨fun w => by simp only [sizeOf, Sem.run_bind, Try.typeInfo60]; rfl⟩
instance : TBy Try.prog 60 8 := ⟨fun w => ⟨_, Try.typeInfo60 w, rfl⟩⟩
instance : TA Try.prog 60 false := ⟨Try.isAgg60⟩
instance : TZ Try.prog 60 .nilFunc [.nilFunc] := ⟨Try.zeroValue60, rfl⟩
instance : TU Try.prog 61 (.func #[75] #[] false) := ⟨Try.underlying61⟩
instance : TS Try.prog 61 1 := ⟨fun w => by simp only [sizeOf, Sem.run_bind, Try.typeInfo61]; rfl⟩
instance : TBy Try.prog 61 8 := ⟨fun w => ⟨_, Try.typeInfo61 w, rfl⟩⟩
instance : TA Try.prog 61 false := ⟨Try.isAgg61⟩
instance : TZ Try.prog 61 .nilFunc [.nilFunc] := ⟨Try.zeroValue61, rfl⟩
instance : TU Try.prog 63 (.pointer 23) := ⟨Try.underlying63⟩
instance : TS Try.prog 63 1 := ⟨fun w => by simp only [sizeOf, Sem.run_bind, Try.typeInfo63]; rfl⟩
instance : TBy Try.prog 63 8 := ⟨fun w => ⟨_, Try.typeInfo63 w, rfl⟩⟩
instance : TA Try.prog 63 false := ⟨Try.isAgg63⟩
instance : TZ Try.prog 63 (.pointer none) [(.pointer none)] := ⟨Try.zeroValue63, rfl⟩
instance : TU Try.prog 64 (.func #[63, 3] #[] false) := ⟨Try.underlying64⟩
instance : TS Try.prog 64 1 := ⟨fun w => by simp only [sizeOf, Sem.run_bind, Try.typeInfo64]; rfl⟩
instance : TBy Try.prog 64 8 := ⟨fun w => ⟨_, Try.typeInfo64 w, rfl⟩⟩
instance : TA Try.prog 64 false := ⟨Try.isAgg64⟩
instance : TZ Try.prog 64 .nilFunc [.nilFunc] := ⟨Try.zeroValue64, rfl⟩
instance : TU Try.prog 65 (.slice 64) := ⟨Try.underlying65⟩
instance : TS Try.prog 65 1 := ⟨fun w => by simp only [sizeOf, Sem.run_bind, Try.typeInfo65]; rfl⟩
instance : TBy Try.prog 65 24 := ⟨fun w => ⟨_, Try.typeInfo65 w, rfl⟩⟩
instance : TA Try.prog 65 false := ⟨Try.isAgg65⟩
instance : TZ Try.prog 65 (.slice none 0 0) [(.slice none 0 0)] := ⟨Try.zeroValue65, rfl⟩
instance : TU Try.prog 69 (.map 3 4) := ⟨Try.underlying69⟩
instance : TS Try.prog 69 1 := ⟨fun w => by simp only [sizeOf, Sem.run_bind, Try.typeInfo69]; rfl⟩
instance : TBy Try.prog 69 8 := ⟨fun w => ⟨_, Try.typeInfo69 w, rfl⟩⟩
instance : TA Try.prog 69 false := ⟨Try.isAgg69⟩
instance : TZ Try.prog 69 (.map none) [(.map none)] := ⟨Try.zeroValue69, rfl⟩
instance : TU Try.prog 75 (.func #[28] #[4] false) := ⟨Try.underlying75⟩
instance : TS Try.prog 75 1 := ⟨fun w => by simp only [sizeOf, Sem.run_bind, Try.typeInfo75]; rfl⟩
instance : TBy Try.prog 75 8 := ⟨fun w => ⟨_, Try.typeInfo75 w, rfl⟩⟩
instance : TA Try.prog 75 false := ⟨Try.isAgg75⟩
instance : TZ Try.prog 75 .nilFunc [.nilFunc] := ⟨Try.zeroValue75, rfl⟩
instance : TE Try.prog 3 1 8 (.int .i64 (0)) := ⟨⟨Try.t3, by kernel_rfl, rfl, rfl, rfl⟩⟩
instance : TE Try.prog 23 8 64 (.agg #[(.int .i64 (0)), (.int .i64 (0)), (.int .i64 (0)), (.int .i64 (0)), (.int .i64 (0)), (.int .i64 (0)), (.int .i64 (0)), (.int .u8 (0))]) := ⟨⟨Try.t23, by kernel_rfl, rfl, rfl, rfl⟩⟩
instance : TE Try.prog 28 2 16 (.agg #[(.int .i64 (0)), (.int .i64 (0))]) := ⟨⟨Try.t28, by kernel_rfl, rfl, rfl, rfl⟩⟩
instance : TE Try.prog 50 2 16 (.agg #[(.int .i64 (0)), (.int .i64 (0))]) := ⟨⟨Try.t50, by kernel_rfl, rfl, rfl, rfl⟩⟩
instance : TE Try.prog 64 1 8 .nilFunc := ⟨⟨Try.t64, by kernel_rfl, rfl, rfl, rfl⟩⟩
instance : TF Try.prog 23 0 0 := TF.mk' (k := 0) Try.underlying23 rfl rfl (TS.h (P := Try.prog) (t := 3))
instance : TFV Try.prog 23 0 0 1 false := TFV.mk' Try.underlying23 rfl rfl (TS.h (P := Try.prog) (t := 3)) (TA.h (P := Try.prog) (t := 3))
instance : TF Try.prog 23 1 1 := TF.mk' (k := 0) Try.underlying23 rfl rfl (TS.h (P := Try.prog) (t := 3))
instance : TFV Try.prog 23 1 1 1 false := TFV.mk' Try.underlying23 rfl rfl (TS.h (P := Try.prog) (t := 3)) (TA.h (P := Try.prog) (t := 3))
instance : TF Try.prog 23 2 2 := TF.mk' (k := 0) Try.underlying23 rfl rfl (TS.h (P := Try.prog) (t := 3))
instance : TFV Try.prog 23 2 2 1 false := TFV.mk' Try.underlying23 rfl rfl (TS.h (P := Try.prog) (t := 3)) (TA.h (P := Try.prog) (t := 3))
instance : TF Try.prog 23 3 3 := TF.mk' (k := 0) Try.underlying23 rfl rfl (TS.h (P := Try.prog) (t := 3))
instance : TFV Try.prog 23 3 3 1 false := TFV.mk' Try.underlying23 rfl rfl (TS.h (P := Try.prog) (t := 3)) (TA.h (P := Try.prog) (t := 3))
instance : TF Try.prog 23 4 4 := TF.mk' (k := 0) Try.underlying23 rfl rfl (TS.h (P := Try.prog) (t := 3))
instance : TFV Try.prog 23 4 4 1 false := TFV.mk' Try.underlying23 rfl rfl (TS.h (P := Try.prog) (t := 3)) (TA.h (P := Try.prog) (t := 3))
instance : TF Try.prog 23 5 5 := TF.mk' (k := 0) Try.underlying23 rfl rfl (TS.h (P := Try.prog) (t := 3))
instance : TFV Try.prog 23 5 5 1 false := TFV.mk' Try.underlying23 rfl rfl (TS.h (P := Try.prog) (t := 3)) (TA.h (P := Try.prog) (t := 3))
instance : TF Try.prog 23 6 6 := TF.mk' (k := 0) Try.underlying23 rfl rfl (TS.h (P := Try.prog) (t := 3))
instance : TFV Try.prog 23 6 6 1 false := TFV.mk' Try.underlying23 rfl rfl (TS.h (P := Try.prog) (t := 3)) (TA.h (P := Try.prog) (t := 3))
instance : TF Try.prog 23 7 7 := TF.mk' (k := 0) Try.underlying23 rfl rfl (TS.h (P := Try.prog) (t := 5))
instance : TFV Try.prog 23 7 7 1 false := TFV.mk' Try.underlying23 rfl rfl (TS.h (P := Try.prog) (t := 5)) (TA.h (P := Try.prog) (t := 5))
instance : TQ Try.prog 23 [.int .i64, .int .i64, .int .i64, .int .i64, .int .i64, .int .i64, .int .i64, .int .u8] := ⟨⟨_, Try.underlying23, by kernel_rfl, by kernel_rfl, ⟨by decide, rfl, Try.isAgg3, Try.underlying3, ⟨by decide, rfl, Try.isAgg3, Try.underlying3, ⟨by decide, rfl, Try.isAgg3, Try.underlying3, ⟨by decide, rfl, Try.isAgg3, Try.underlying3, ⟨by decide, rfl, Try.isAgg3, Try.underlying3, ⟨by decide, rfl, Try.isAgg3, Try.underlying3, ⟨by decide, rfl, Try.isAgg3, Try.underlying3, ⟨by decide, rfl, Try.isAgg5, Try.underlying5, trivial⟩⟩⟩⟩⟩⟩⟩⟩⟩⟩
instance : TPl Try.prog 23 [(0, 1), (1, 1), (2, 1), (3, 1), (4, 1), (5, 1), (6, 1), (7, 1)] := ⟨_, Try.underlying23, fun w => by simp [TS.h (P := Try.prog) (t := 3), TS.h (P := Try.prog) (t := 5)]⟩
instance : TF Try.prog 28 0 0 := TF.mk' (k := 0) Try.underlying28 rfl rfl (TS.h (P := Try.prog) (t := 3))
instance : TFV Try.prog 28 0 0 1 false := TFV.mk' Try.underlying28 rfl rfl (TS.h (P := Try.prog) (t := 3)) (TA.h (P := Try.prog) (t := 3))
instance : TF Try.prog 28 1 1 := TF.mk' (k := 0) Try.underlying28 rfl rfl (TS.h (P := Try.prog) (t := 3))
instance : TFV Try.prog 28 1 1 1 false := TFV.mk' Try.underlying28 rfl rfl (TS.h (P := Try.prog) (t := 3)) (TA.h (P := Try.prog) (t := 3))
instance : TQ Try.prog 28 [.int .i64, .int .i64] := ⟨⟨_, Try.underlying28, by kernel_rfl, by kernel_rfl, ⟨by decide, rfl, Try.isAgg3, Try.underlying3, ⟨by decide, rfl, Try.isAgg3, Try.underlying3, trivial⟩⟩⟩⟩
instance : TPl Try.prog 28 [(0, 1), (1, 1)] := ⟨_, Try.underlying28, fun w => by simp [TS.h (P := Try.prog) (t := 3)]⟩
instance : TF Try.prog 42 0 0 := TF.mk' (k := 0) Try.underlying42 rfl rfl (TS.h (P := Try.prog) (t := 39))
instance : TFV Try.prog 42 0 0 1 false := TFV.mk' Try.underlying42 rfl rfl (TS.h (P := Try.prog) (t := 39)) (TA.h (P := Try.prog) (t := 39))
instance : TF Try.prog 42 1 1 := TF.mk' (k := 0) Try.underlying42 rfl rfl (TS.h (P := Try.prog) (t := 40))
instance : TFV Try.prog 42 1 1 1 false := TFV.mk' Try.underlying42 rfl rfl (TS.h (P := Try.prog) (t := 40)) (TA.h (P := Try.prog) (t := 40))
instance : TPl Try.prog 42 [(0, 1), (1, 1)] := ⟨_, Try.underlying42, fun w => by simp [TS.h (P := Try.prog) (t := 39), TS.h (P := Try.prog) (t := 40)]⟩
instance : TF Try.prog 50 0 0 := TF.mk' (k := 0) Try.underlying50 rfl rfl (TS.h (P := Try.prog) (t := 3))
instance : TFV Try.prog 50 0 0 1 false := TFV.mk' Try.underlying50 rfl rfl (TS.h (P := Try.prog) (t := 3)) (TA.h (P := Try.prog) (t := 3))
instance : TF Try.prog 50 1 1 := TF.mk' (k := 0) Try.underlying50 rfl rfl (TS.h (P := Try.prog) (t := 3))
instance : TFV Try.prog 50 1 1 1 false := TFV.mk' Try.underlying50 rfl rfl (TS.h (P := Try.prog) (t := 3)) (TA.h (P := Try.prog) (t := 3))
instance : TQ Try.prog 50 [.int .i64, .int .i64] := ⟨⟨_, Try.underlying50, by kernel_rfl, by kernel_rfl, ⟨by decide, rfl, Try.isAgg3, Try.underlying3, ⟨by decide, rfl, Try.isAgg3, Try.underlying3, trivial⟩⟩⟩⟩
instance : TPl Try.prog 50 [(0, 1), (1, 1)] := ⟨_, Try.underlying50, fun w => by simp [TS.h (P := Try.prog) (t := 3)]⟩
instance : TF Try.prog 58 0 0 := TF.mk' (k := 0) Try.underlying58 rfl rfl (TS.h (P := Try.prog) (t := 3))
instance : TFV Try.prog 58 0 0 1 false := TFV.mk' Try.underlying58 rfl rfl (TS.h (P := Try.prog) (t := 3)) (TA.h (P := Try.prog) (t := 3))
instance : TF Try.prog 58 1 1 := TF.mk' (k := 0) Try.underlying58 rfl rfl (TS.h (P := Try.prog) (t := 3))
instance : TFV Try.prog 58 1 1 1 false := TFV.mk' Try.underlying58 rfl rfl (TS.h (P := Try.prog) (t := 3)) (TA.h (P := Try.prog) (t := 3))
instance : TF Try.prog 58 2 2 := TF.mk' (k := 0) Try.underlying58 rfl rfl (TS.h (P := Try.prog) (t := 3))
instance : TFV Try.prog 58 2 2 1 false := TFV.mk' Try.underlying58 rfl rfl (TS.h (P := Try.prog) (t := 3)) (TA.h (P := Try.prog) (t := 3))
instance : TQ Try.prog 58 [.int .i64, .int .i64, .int .i64] := ⟨⟨_, Try.underlying58, by kernel_rfl, by kernel_rfl, ⟨by decide, rfl, Try.isAgg3, Try.underlying3, ⟨by decide, rfl, Try.isAgg3, Try.underlying3, ⟨by decide, rfl, Try.isAgg3, Try.underlying3, trivial⟩⟩⟩⟩⟩
instance : TPl Try.prog 58 [(0, 1), (1, 1), (2, 1)] := ⟨_, Try.underlying58, fun w => by simp [TS.h (P := Try.prog) (t := 3)]⟩
instance : TC Try.prog 3 Try.f3 := ⟨Try.func3, ⟨_, rfl⟩, by kernel_rfl⟩
instance : TC Try.prog 4 Try.f4 := ⟨Try.func4, ⟨_, rfl⟩, by kernel_rfl⟩
instance : TC Try.prog 5 Try.f5 := ⟨Try.func5, ⟨_, rfl⟩, by kernel_rfl⟩
instance : TC Try.prog 6 Try.f6 := ⟨Try.func6, ⟨_, rfl⟩, by kernel_rfl⟩
instance : TC Try.prog 7 Try.f7 := ⟨Try.func7, ⟨_, rfl⟩, by kernel_rfl⟩
instance : TC Try.prog 8 Try.f8 := ⟨Try.func8, ⟨_, rfl⟩, by kernel_rfl⟩
instance : TC Try.prog 9 Try.f9 := ⟨Try.func9, ⟨_, rfl⟩, by kernel_rfl⟩
instance : TC Try.prog 10 Try.f10 := ⟨Try.func10, ⟨_, rfl⟩, by kernel_rfl⟩
instance : TC Try.prog 11 Try.f11 := ⟨Try.func11, ⟨_, rfl⟩, by kernel_rfl⟩
instance : TC Try.prog 12 Try.f12 := ⟨Try.func12, ⟨_, rfl⟩, by kernel_rfl⟩
instance : TC Try.prog 13 Try.f13 := ⟨Try.func13, ⟨_, rfl⟩, by kernel_rfl⟩
instance : TC Try.prog 14 Try.f14 := ⟨Try.func14, ⟨_, rfl⟩, by kernel_rfl⟩
instance : TC Try.prog 15 Try.f15 := ⟨Try.func15, ⟨_, rfl⟩, by kernel_rfl⟩
instance : TC Try.prog 16 Try.f16 := ⟨Try.func16, ⟨_, rfl⟩, by kernel_rfl⟩
instance : TC Try.prog 17 Try.f17 := ⟨Try.func17, ⟨_, rfl⟩, by kernel_rfl⟩
instance : TC Try.prog 18 Try.f18 := ⟨Try.func18, ⟨_, rfl⟩, by kernel_rfl⟩
instance : TC Try.prog 19 Try.f19 := ⟨Try.func19, ⟨_, rfl⟩, by kernel_rfl⟩
instance : TC Try.prog 20 Try.f20 := ⟨Try.func20, ⟨_, rfl⟩, by kernel_rfl⟩
instance : TC Try.prog 21 Try.f21 := ⟨Try.func21, ⟨_, rfl⟩, by kernel_rfl⟩
instance : TC Try.prog 22 Try.f22 := ⟨Try.func22, ⟨_, rfl⟩, by kernel_rfl⟩
instance : TC Try.prog 23 Try.f23 := ⟨Try.func23, ⟨_, rfl⟩, by kernel_rfl⟩
instance : TC Try.prog 24 Try.f24 := ⟨Try.func24, ⟨_, rfl⟩, by kernel_rfl⟩
instance : TC Try.prog 25 Try.f25 := ⟨Try.func25, ⟨_, rfl⟩, by kernel_rfl⟩
instance : TC Try.prog 26 Try.f26 := ⟨Try.func26, ⟨_, rfl⟩, by kernel_rfl⟩
instance : TC Try.prog 27 Try.f27 := ⟨Try.func27, ⟨_, rfl⟩, by kernel_rfl⟩
instance : TC Try.prog 28 Try.f28 := ⟨Try.func28, ⟨_, rfl⟩, by kernel_rfl⟩
instance : TC Try.prog 29 Try.f29 := ⟨Try.func29, ⟨_, rfl⟩, by kernel_rfl⟩
instance : TC Try.prog 30 Try.f30 := ⟨Try.func30, ⟨_, rfl⟩, by kernel_rfl⟩
instance : TC Try.prog 31 Try.f31 := ⟨Try.func31, ⟨_, rfl⟩, by kernel_rfl⟩
instance : TC Try.prog 32 Try.f32 := ⟨Try.func32, ⟨_, rfl⟩, by kernel_rfl⟩
instance : TC Try.prog 33 Try.f33 := ⟨Try.func33, ⟨_, rfl⟩, by kernel_rfl⟩
instance : TC Try.prog 34 Try.f34 := ⟨Try.func34, ⟨_, rfl⟩, by kernel_rfl⟩
instance : TC Try.prog 35 Try.f35 := ⟨Try.func35, ⟨_, rfl⟩, by kernel_rfl⟩
instance : TC Try.prog 36 Try.f36 := ⟨Try.func36, ⟨_, rfl⟩, by kernel_rfl⟩
instance : TC Try.prog 37 Try.f37 := ⟨Try.func37, ⟨_, rfl⟩, by kernel_rfl⟩
instance : TC Try.prog 38 Try.f38 := ⟨Try.func38, ⟨_, rfl⟩, by kernel_rfl⟩
instance : TC Try.prog 39 Try.f39 := ⟨Try.func39, ⟨_, rfl⟩, by kernel_rfl⟩
instance : TC Try.prog 40 Try.f40 := ⟨Try.func40, ⟨_, rfl⟩, by kernel_rfl⟩
instance : TC Try.prog 41 Try.f41 := ⟨Try.func41, ⟨_, rfl⟩, by kernel_rfl⟩
instance : TC Try.prog 42 Try.f42 := ⟨Try.func42, ⟨_, rfl⟩, by kernel_rfl⟩
instance : TC Try.prog 43 Try.f43 := ⟨Try.func43, ⟨_, rfl⟩, by kernel_rfl⟩
instance : TC Try.prog 44 Try.f44 := ⟨Try.func44, ⟨_, rfl⟩, by kernel_rfl⟩
instance : TC Try.prog 45 Try.f45 := ⟨Try.func45, ⟨_, rfl⟩, by kernel_rfl⟩
instance : TC Try.prog 46 Try.f46 := ⟨Try.func46, ⟨_, rfl⟩, by kernel_rfl⟩
instance : TC Try.prog 47 Try.f47 := ⟨Try.func47, ⟨_, rfl⟩, by kernel_rfl⟩
instance : TC Try.prog 48 Try.f48 := ⟨Try.func48, ⟨_, rfl⟩, by kernel_rfl⟩
instance : TC Try.prog 49 Try.f49 := ⟨Try.func49, ⟨_, rfl⟩, by kernel_rfl⟩
instance : TC Try.prog 50 Try.f50 := ⟨Try.func50, ⟨_, rfl⟩, by kernel_rfl⟩
instance : TC Try.prog 51 Try.f51 := ⟨Try.func51, ⟨_, rfl⟩, by kernel_rfl⟩
instance : TC Try.prog 52 Try.f52 := ⟨Try.func52, ⟨_, rfl⟩, by kernel_rfl⟩
instance : TC Try.prog 53 Try.f53 := ⟨Try.func53, ⟨_, rfl⟩, by kernel_rfl⟩
instance : TC Try.prog 54 Try.f54 := ⟨Try.func54, ⟨_, rfl⟩, by kernel_rfl⟩
instance : TC Try.prog 55 Try.f55 := ⟨Try.func55, ⟨_, rfl⟩, by kernel_rfl⟩
instance : TC Try.prog 56 Try.f56 := ⟨Try.func56, ⟨_, rfl⟩, by kernel_rfl⟩
instance : TC Try.prog 57 Try.f57 := ⟨Try.func57, ⟨_, rfl⟩, by kernel_rfl⟩
instance : TC Try.prog 58 Try.f58 := ⟨Try.func58, ⟨_, rfl⟩, by kernel_rfl⟩
instance : TC Try.prog 59 Try.f59 := ⟨Try.func59, ⟨_, rfl⟩, by kernel_rfl⟩
end Go.Proofs.Ytcocnhfbdcapbaa
