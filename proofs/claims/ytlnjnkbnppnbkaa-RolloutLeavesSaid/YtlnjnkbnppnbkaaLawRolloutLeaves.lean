/- The law RolloutLeaves: its walk. -/
import Derived.Test.YtlnjnkbnppnbkaaPdB
import Derived.Test.YtlnjnkbnppnbkaaKsA
import Derived.Test.YtlnjnkbnppnbkaaRoA
namespace Go.Proofs.Ytlnjnkbnppnbkaa
open Go Go.RowKit
set_option linter.unusedVariables false
set_option linter.unusedSimpArgs false
def rolloutLeavesS_j7 (e6_b14_12_0 : Int) (e6_b14_12_1 : Int) (e6_b14_12_2 : Int) (e6_b14_12_3 : Int) (e6_b14_12_4 : Int) (e6_b14_12_5 : Int) (e6_b14_12_6x : List Int) (e6_b14_12_7 : Int) (e6_b14_12_8 : Int) (e6_b6_0_0 : CacheS) : Option (Bool) :=
  (rnextS (⟨e6_b14_12_0, e6_b14_12_1, e6_b14_12_2, e6_b14_12_3, e6_b14_12_4, e6_b14_12_5, e6_b14_12_6x, e6_b14_12_7, e6_b14_12_8⟩ : DealS) (2 : Int) e6_b6_0_0 (⟨8, 0, 0, 5, 1, 0, 0, false, ([] : List Int)⟩ : PktS)).bind fun y38_3 => (bif y38_3.2.1 then (bif decide (y38_3.1.step = (0 : Int)) then (wakes16S).bind fun y39_7 => some y39_7 else some false) else some false)
def rolloutLeavesS_j6 (there : Bool) (e3_4 : Bool) (data : Int) (e6_18 : Bool) (e6_21 : Int) (e6_22 : Int) (e6_b15_2_0 : Int) (e6_b15_2_1 : Int) (e6_b15_2_2 : Int) (e6_b15_2_3 : Int) (e6_b15_2_4 : Int) (e6_b15_2_5 : Int) (e6_b15_2_6 : Int) (e6_b15_2_7 : Bool) (e6_b15_2_8x : List Int) (e6_b14_12_0 : Int) (e6_b14_12_1 : Int) (e6_b14_12_2 : Int) (e6_b14_12_3 : Int) (e6_b14_12_4 : Int) (e6_b14_12_5 : Int) (e6_b14_12_6x : List Int) (e6_b14_12_7 : Int) (e6_b14_12_8 : Int) (e6_b6_0_0 : CacheS) : Option (Bool) :=
  (bif !e6_18 then some false else (bif !(decide (e6_b15_2_0 = (2 : Int))) then some false else (bif !(decide (e6_b15_2_5 = e6_21)) then some false else (bif !(decide (e6_b15_2_6 = e6_22)) then some false else (bif there then (bif !(e6_b15_2_7 == e3_4) then some false else (bif e6_b15_2_7 then letP ([data] : List Int) fun l36_35 => (ksameS e6_b15_2_8x l36_35).bind fun y36_36 => (bif !y36_36 then some false else (bif !e6_b15_2_7 then (bif !(decide ((((List.length e6_b15_2_8x) : Nat) : Int) = (0 : Int))) then some false else letP (lenC e6_b6_0_0) fun y36_53 => (bif !(decide (y36_53 = (0 : Int))) then some false else rolloutLeavesS_j7 e6_b14_12_0 e6_b14_12_1 e6_b14_12_2 e6_b14_12_3 e6_b14_12_4 e6_b14_12_5 e6_b14_12_6x e6_b14_12_7 e6_b14_12_8 e6_b6_0_0)) else letP (lenC e6_b6_0_0) fun y36_53 => (bif !(decide (y36_53 = (0 : Int))) then some false else rolloutLeavesS_j7 e6_b14_12_0 e6_b14_12_1 e6_b14_12_2 e6_b14_12_3 e6_b14_12_4 e6_b14_12_5 e6_b14_12_6x e6_b14_12_7 e6_b14_12_8 e6_b6_0_0))) else (bif !e6_b15_2_7 then (bif !(decide ((((List.length e6_b15_2_8x) : Nat) : Int) = (0 : Int))) then some false else letP (lenC e6_b6_0_0) fun y36_53 => (bif !(decide (y36_53 = (0 : Int))) then some false else rolloutLeavesS_j7 e6_b14_12_0 e6_b14_12_1 e6_b14_12_2 e6_b14_12_3 e6_b14_12_4 e6_b14_12_5 e6_b14_12_6x e6_b14_12_7 e6_b14_12_8 e6_b6_0_0)) else letP (lenC e6_b6_0_0) fun y36_53 => (bif !(decide (y36_53 = (0 : Int))) then some false else rolloutLeavesS_j7 e6_b14_12_0 e6_b14_12_1 e6_b14_12_2 e6_b14_12_3 e6_b14_12_4 e6_b14_12_5 e6_b14_12_6x e6_b14_12_7 e6_b14_12_8 e6_b6_0_0)))) else (bif !(e6_b15_2_7 == false) then some false else (bif e6_b15_2_7 then letP ([data] : List Int) fun l36_35 => (ksameS e6_b15_2_8x l36_35).bind fun y36_36 => (bif !y36_36 then some false else (bif !e6_b15_2_7 then (bif !(decide ((((List.length e6_b15_2_8x) : Nat) : Int) = (0 : Int))) then some false else letP (lenC e6_b6_0_0) fun y36_53 => (bif !(decide (y36_53 = (0 : Int))) then some false else rolloutLeavesS_j7 e6_b14_12_0 e6_b14_12_1 e6_b14_12_2 e6_b14_12_3 e6_b14_12_4 e6_b14_12_5 e6_b14_12_6x e6_b14_12_7 e6_b14_12_8 e6_b6_0_0)) else letP (lenC e6_b6_0_0) fun y36_53 => (bif !(decide (y36_53 = (0 : Int))) then some false else rolloutLeavesS_j7 e6_b14_12_0 e6_b14_12_1 e6_b14_12_2 e6_b14_12_3 e6_b14_12_4 e6_b14_12_5 e6_b14_12_6x e6_b14_12_7 e6_b14_12_8 e6_b6_0_0))) else (bif !e6_b15_2_7 then (bif !(decide ((((List.length e6_b15_2_8x) : Nat) : Int) = (0 : Int))) then some false else letP (lenC e6_b6_0_0) fun y36_53 => (bif !(decide (y36_53 = (0 : Int))) then some false else rolloutLeavesS_j7 e6_b14_12_0 e6_b14_12_1 e6_b14_12_2 e6_b14_12_3 e6_b14_12_4 e6_b14_12_5 e6_b14_12_6x e6_b14_12_7 e6_b14_12_8 e6_b6_0_0)) else letP (lenC e6_b6_0_0) fun y36_53 => (bif !(decide (y36_53 = (0 : Int))) then some false else rolloutLeavesS_j7 e6_b14_12_0 e6_b14_12_1 e6_b14_12_2 e6_b14_12_3 e6_b14_12_4 e6_b14_12_5 e6_b14_12_6x e6_b14_12_7 e6_b14_12_8 e6_b6_0_0)))))))))
def rolloutLeavesS_j9 (e8_b6_0_0 : CacheS) (e8_b14_12_0 : Int) (e8_b14_12_1 : Int) (e8_b14_12_2 : Int) (e8_b14_12_3 : Int) (e8_b14_12_4 : Int) (e8_b14_12_5 : Int) (e8_b14_12_6x : List Int) (e8_b14_12_7 : Int) (e8_b14_12_8 : Int) (e2_13 : Bool) (there : Bool) (e3_4 : Bool) (data : Int) (e8_21 : Int) (e9_134 : Bool) : Option (Bool) :=
  (bif e9_134 then some false else (findS e8_b6_0_0 (1 : Int)).bind fun y29_1 => (bif !y29_1.2 then some false else (rnextS (⟨e8_b14_12_0, e8_b14_12_1, e8_b14_12_2, e8_b14_12_3, e8_b14_12_4, e8_b14_12_5, e8_b14_12_6x, e8_b14_12_7, e8_b14_12_8⟩ : DealS) (2 : Int) e8_b6_0_0 (⟨8, 0, 0, 5, 1, 0, 0, false, ([] : List Int)⟩ : PktS)).bind fun y32_3 => (daskS y32_3.1 (2 : Int) (0 : Int)).bind fun y33_1 => (bif e2_13 then rolloutLeavesS_j6 there e3_4 data y32_3.2.1 e8_21 0 y33_1.kind y33_1.src y33_1.dst y33_1.id y33_1.line y33_1.ptr y33_1.state y33_1.flag y33_1.data y32_3.1.kind y32_3.1.line y32_3.1.id y32_3.1.step y32_3.1.state y32_3.1.head y32_3.1.data y32_3.1.next y32_3.1.told y32_3.2.2 else rolloutLeavesS_j6 there e3_4 data y32_3.2.1 e8_21 1 y33_1.kind y33_1.src y33_1.dst y33_1.id y33_1.line y33_1.ptr y33_1.state y33_1.flag y33_1.data y32_3.1.kind y32_3.1.line y32_3.1.id y32_3.1.step y32_3.1.state y32_3.1.head y32_3.1.data y32_3.1.next y32_3.1.told y32_3.2.2)))
def rolloutLeavesS_j8 (e0_0 : Int) (e2_13 : Bool) (there : Bool) (e3_4 : Bool) (data : Int) (e0_1 : Int) (e8_18 : Bool) (e8_21 : Int) (e8_b15_2_0 : Int) (e8_b15_2_1 : Int) (e8_b15_2_2 : Int) (e8_b15_2_3 : Int) (e8_b15_2_4 : Int) (e8_b15_2_5 : Int) (e8_b15_2_6 : Int) (e8_b15_2_7 : Bool) (e8_b15_2_8x : List Int) (e8_b14_12_0 : Int) (e8_b14_12_1 : Int) (e8_b14_12_2 : Int) (e8_b14_12_3 : Int) (e8_b14_12_4 : Int) (e8_b14_12_5 : Int) (e8_b14_12_6x : List Int) (e8_b14_12_7 : Int) (e8_b14_12_8 : Int) (e8_b6_0_0 : CacheS) : Option (Bool) :=
  (bif !(decide (e0_0 = ((-1) : Int))) then (bif !e8_18 then rolloutLeavesS_j9 e8_b6_0_0 e8_b14_12_0 e8_b14_12_1 e8_b14_12_2 e8_b14_12_3 e8_b14_12_4 e8_b14_12_5 e8_b14_12_6x e8_b14_12_7 e8_b14_12_8 e2_13 there e3_4 data e8_21 true else (bif !(decide (e8_b15_2_0 = (5 : Int))) then rolloutLeavesS_j9 e8_b6_0_0 e8_b14_12_0 e8_b14_12_1 e8_b14_12_2 e8_b14_12_3 e8_b14_12_4 e8_b14_12_5 e8_b14_12_6x e8_b14_12_7 e8_b14_12_8 e2_13 there e3_4 data e8_21 true else (bif !(decide (e8_b15_2_2 = e0_0)) then rolloutLeavesS_j9 e8_b6_0_0 e8_b14_12_0 e8_b14_12_1 e8_b14_12_2 e8_b14_12_3 e8_b14_12_4 e8_b14_12_5 e8_b14_12_6x e8_b14_12_7 e8_b14_12_8 e2_13 there e3_4 data e8_21 true else rolloutLeavesS_j9 e8_b6_0_0 e8_b14_12_0 e8_b14_12_1 e8_b14_12_2 e8_b14_12_3 e8_b14_12_4 e8_b14_12_5 e8_b14_12_6x e8_b14_12_7 e8_b14_12_8 e2_13 there e3_4 data e8_21 (!(decide (e8_b15_2_5 = e0_1)))))) else (bif e2_13 then rolloutLeavesS_j6 there e3_4 data e8_18 e8_21 0 e8_b15_2_0 e8_b15_2_1 e8_b15_2_2 e8_b15_2_3 e8_b15_2_4 e8_b15_2_5 e8_b15_2_6 e8_b15_2_7 e8_b15_2_8x e8_b14_12_0 e8_b14_12_1 e8_b14_12_2 e8_b14_12_3 e8_b14_12_4 e8_b14_12_5 e8_b14_12_6x e8_b14_12_7 e8_b14_12_8 e8_b6_0_0 else rolloutLeavesS_j6 there e3_4 data e8_18 e8_21 1 e8_b15_2_0 e8_b15_2_1 e8_b15_2_2 e8_b15_2_3 e8_b15_2_4 e8_b15_2_5 e8_b15_2_6 e8_b15_2_7 e8_b15_2_8x e8_b14_12_0 e8_b14_12_1 e8_b14_12_2 e8_b14_12_3 e8_b14_12_4 e8_b14_12_5 e8_b14_12_6x e8_b14_12_7 e8_b14_12_8 e8_b6_0_0))
def rolloutLeavesS_j10 (y14_8 : DealS × Bool × CacheS) (e0_0 : Int) (e2_13 : Bool) (there : Bool) (e3_4 : Bool) (data : Int) (e0_1 : Int) (e1_2 : Int) (e10_103 : Bool) : Option (Bool) :=
  (bif e10_103 then some false else (rnextS y14_8.1 (2 : Int) y14_8.2.2 (⟨8, 0, 0, 5, 1, 0, 0, false, ([] : List Int)⟩ : PktS)).bind fun y23_3 => (daskS y23_3.1 (2 : Int) (0 : Int)).bind fun y24_1 => rolloutLeavesS_j8 e0_0 e2_13 there e3_4 data e0_1 y23_3.2.1 e1_2 y24_1.kind y24_1.src y24_1.dst y24_1.id y24_1.line y24_1.ptr y24_1.state y24_1.flag y24_1.data y23_3.1.kind y23_3.1.line y23_3.1.id y23_3.1.step y23_3.1.state y23_3.1.head y23_3.1.data y23_3.1.next y23_3.1.told y23_3.2.2)
def rolloutLeavesS_j5 (data : Int) (e1_2 : Int) (e4_16 : Int) (there : Bool) (e0_1 : Int) (e0_0 : Int) (e2_13 : Bool) (e3_4 : Bool) (e5_b6_0_0 : CacheS) : Option (Bool) :=
  (dbeginS (3 : Int) (1 : Int) (5 : Int)).bind fun y14_0 => letP ([wr (data + (1 : Int))] : List Int) fun l14_6 => (rnextS y14_0 (2 : Int) e5_b6_0_0 (⟨7, 0, 0, 5, 1, e1_2, e4_16, false, l14_6⟩ : PktS)).bind fun y14_8 => (daskS y14_8.1 (2 : Int) (0 : Int)).bind fun y15_1 => (bif there then (bif !(decide (e0_1 = ((-1) : Int))) then (bif !y14_8.2.1 then rolloutLeavesS_j10 y14_8 e0_0 e2_13 there e3_4 data e0_1 e1_2 true else (bif !(decide (y15_1.kind = (4 : Int))) then rolloutLeavesS_j10 y14_8 e0_0 e2_13 there e3_4 data e0_1 e1_2 true else (bif !(decide (y15_1.dst = e0_1)) then rolloutLeavesS_j10 y14_8 e0_0 e2_13 there e3_4 data e0_1 e1_2 true else rolloutLeavesS_j10 y14_8 e0_0 e2_13 there e3_4 data e0_1 e1_2 (!(decide (y15_1.ptr = e0_0)))))) else rolloutLeavesS_j8 e0_0 e2_13 there e3_4 data e0_1 y14_8.2.1 e0_0 y15_1.kind y15_1.src y15_1.dst y15_1.id y15_1.line y15_1.ptr y15_1.state y15_1.flag y15_1.data y14_8.1.kind y14_8.1.line y14_8.1.id y14_8.1.step y14_8.1.state y14_8.1.head y14_8.1.data y14_8.1.next y14_8.1.told y14_8.2.2) else rolloutLeavesS_j6 there e3_4 data y14_8.2.1 e1_2 e4_16 y15_1.kind y15_1.src y15_1.dst y15_1.id y15_1.line y15_1.ptr y15_1.state y15_1.flag y15_1.data y14_8.1.kind y14_8.1.line y14_8.1.id y14_8.1.step y14_8.1.state y14_8.1.head y14_8.1.data y14_8.1.next y14_8.1.told y14_8.2.2)
def rolloutLeavesS_j4 (there : Bool) (data : Int) (e0_0 : Int) (e0_1 : Int) (e3_4 : Bool) (y6_0 : CacheS × CacheS) (e1_2 : Int) (e2_13 : Bool) (e4_16 : Int) : Option (Bool) :=
  (bif there then letP ([data] : List Int) fun l13_5 => (enewS (1 : Int) e0_0 e0_1 e3_4 l13_5).bind fun y13_6 => (putS y6_0.1 y13_6).bind fun y13_7 => rolloutLeavesS_j5 data e1_2 e4_16 there e0_1 e0_0 e2_13 e3_4 y13_7.2 else rolloutLeavesS_j5 data e1_2 e4_16 there e0_1 e0_0 e2_13 e3_4 y6_0.1)
def rolloutLeavesS_j3 (there : Bool) (data : Int) (e0_0 : Int) (e0_1 : Int) (e1_2 : Int) (e2_13 : Bool) (e3_4 : Bool) : Option (Bool) :=
  (bothNilS).bind fun y6_0 => (bif e3_4 then rolloutLeavesS_j4 there data e0_0 e0_1 e3_4 y6_0 e1_2 e2_13 2 else rolloutLeavesS_j4 there data e0_0 e0_1 e3_4 y6_0 e1_2 e2_13 1)
def rolloutLeavesS_j2 (dirty : Bool) (there : Bool) (data : Int) (e0_0 : Int) (e0_1 : Int) (e1_2 : Int) (e2_13 : Bool) : Option (Bool) :=
  (bif dirty then rolloutLeavesS_j3 there data e0_0 e0_1 e1_2 e2_13 e2_13 else rolloutLeavesS_j3 there data e0_0 e0_1 e1_2 e2_13 false)
def rolloutLeavesS_j1 (e0_0 : Int) (dirty : Bool) (there : Bool) (data : Int) (e0_1 : Int) (e1_2 : Int) : Option (Bool) :=
  (bif decide (e0_0 = ((-1) : Int)) then rolloutLeavesS_j2 dirty there data e0_0 e0_1 e1_2 (decide (e0_1 = ((-1) : Int))) else rolloutLeavesS_j2 dirty there data e0_0 e0_1 e1_2 false)
def rolloutLeavesS_j0 (dirty : Bool) (there : Bool) (data : Int) (e0_0 : Int) (e0_1 : Int) (e0_2 : Int) : Option (Bool) :=
  (bif decide (e0_1 = ((-1) : Int)) then rolloutLeavesS_j1 e0_0 dirty there data e0_1 2 else rolloutLeavesS_j1 e0_0 dirty there data e0_1 e0_2)
def rolloutLeavesS (fwd : Int) (back : Int) (told : Int) (data : Int) (dirty : Bool) (there : Bool) : Option (Bool) :=
  (withinS fwd (3 : Int)).bind fun y1_2 => (withinS back (3 : Int)).bind fun y1_7 => (withinS told (2 : Int)).bind fun y1_11 => letP ([(-1), 3, 4] : List Int) fun l1_0 => chk (0 ≤ y1_2 ∧ y1_2 < ((l1_0.length : Nat) : Int)) (letP ([(-1), 0, 1] : List Int) fun l1_5 => chk (0 ≤ y1_7 ∧ y1_7 < ((l1_5.length : Nat) : Int)) (rolloutLeavesS_j0 dirty there data (nth l1_0 y1_2) (nth l1_5 y1_7) y1_11))
noncomputable def C8 (p : List Nat) : Code := codeAt (bodyOf Try.f8) p
set_option maxRecDepth 100000 in
set_option maxHeartbeats 8000000 in
theorem RolloutLeavesF_tr {W0 : World} {Γ : List Asn} (fwd : Int) (back : Int) (told : Int) (data : Int) (dirty : Bool) (there : Bool)  (y : Bool) (H : rolloutLeavesS fwd back told data dirty there = some y) : Tr Try.prog 8 #[.int .i64 fwd, .int .i64 back, .int .i64 told, .int .i64 data, .bool dirty, .bool there] W0 (Γ) (fun r Δ => r = .bool y ∧ Δ = Γ) := by
  unfold rolloutLeavesS at H
  refine Tr.enter (fn := Try.f8) (c := C8 []) (args := [.int .i64 fwd, .int .i64 back, .int .i64 told, .int .i64 data, .bool dirty, .bool there]) 224 Try.func8 (by kernel_rfl) (by kernel_rfl) ?_
  refine At.env [(0, .int .i64 fwd), (1, .int .i64 back), (2, .int .i64 told), (3, .int .i64 data), (4, .bool dirty), (5, .bool there)] ⟨by kernel_rfl, by kernel_rfl, by kernel_rfl, by kernel_rfl, by kernel_rfl, by kernel_rfl, trivial⟩ ?_
  refine at_seq (x := C8 [0]) (y := C8 [1]) (by kernel_rfl) ?_
  refine at_region (id := 0) 1 (by kernel_rfl) (by kernel_rfl) ?_
  refine s_pure 12 (.bool false) (by kernel_rfl) (by kernel_rfl) (fun _ => by kernel_rfl) ?_
  refine ops_end ?_
  refine At.env [(0, .int .i64 fwd), (1, .int .i64 back), (2, .int .i64 told), (3, .int .i64 data), (4, .bool dirty), (5, .bool there)] ⟨by kernel_rfl, by kernel_rfl, by kernel_rfl, by kernel_rfl, by kernel_rfl, by kernel_rfl, trivial⟩ ?_
  refine at_then_normal ?_
  refine at_seq_join (x := C8 [1,0]) (y := C8 [1,1]) (fun ff ΔΔ => ∃ (e0_0 : Int) (e0_1 : Int) (e0_2 : Int), rolloutLeavesS_j0 dirty there data e0_0 e0_1 e0_2 = some y ∧ ff = [(0, .int .i64 e0_0), (1, .int .i64 e0_1), (2, .int .i64 e0_2), (3, .int .i64 data), (4, .bool dirty), (5, .bool there)] ∧ Γ = ΔΔ) (by kernel_rfl) ?_ ?_
  · rintro _ _ ⟨e0_0, e0_1, e0_2, H, rfl, rfl⟩
    rw [rolloutLeavesS_j0] at H
    refine at_seq_join (x := C8 [1,1,0]) (y := C8 [1,1,1]) (fun ff ΔΔ => ∃ (e1_2 : Int), rolloutLeavesS_j1 e0_0 dirty there data e0_1 e1_2 = some y ∧ ff = [(0, .int .i64 e0_0), (1, .int .i64 e0_1), (2, .int .i64 e1_2), (3, .int .i64 data), (4, .bool dirty), (5, .bool there)] ∧ Γ = ΔΔ) (by kernel_rfl) ?_ ?_
    · rintro _ _ ⟨e1_2, H, rfl, rfl⟩
      rw [rolloutLeavesS_j1] at H
      refine at_seq_join (x := C8 [1,1,1,0]) (y := C8 [1,1,1,1]) (fun ff ΔΔ => ∃ (e2_13 : Bool), rolloutLeavesS_j2 dirty there data e0_0 e0_1 e1_2 e2_13 = some y ∧ ff = [(0, .int .i64 e0_0), (1, .int .i64 e0_1), (2, .int .i64 e1_2), (3, .int .i64 data), (4, .bool dirty), (5, .bool there), (13, .bool e2_13)] ∧ Γ = ΔΔ) (by kernel_rfl) ?_ ?_
      · rintro _ _ ⟨e2_13, H, rfl, rfl⟩
        rw [rolloutLeavesS_j2] at H
        refine at_seq_join (x := C8 [1,1,1,1,0]) (y := C8 [1,1,1,1,1]) (fun ff ΔΔ => ∃ (e3_4 : Bool), rolloutLeavesS_j3 there data e0_0 e0_1 e1_2 e2_13 e3_4 = some y ∧ ff = [(0, .int .i64 e0_0), (1, .int .i64 e0_1), (2, .int .i64 e1_2), (3, .int .i64 data), (4, .bool e3_4), (5, .bool there), (13, .bool e2_13)] ∧ Γ = ΔΔ) (by kernel_rfl) ?_ ?_
        · rintro _ _ ⟨e3_4, H, rfl, rfl⟩
          rw [rolloutLeavesS_j3] at H
          refine at_seq (x := C8 [1,1,1,1,1,0]) (y := C8 [1,1,1,1,1,1]) (by kernel_rfl) ?_
          refine at_region (id := 6) 6 (by kernel_rfl) (by kernel_rfl) ?_
          obtain ⟨y6_0, hy6_0, H⟩ := bindE H
          refine s_call 50 13 #[.slice none 0 0, .slice none 0 0, .slice none 0 0] (by kernel_rfl) (by kernel_rfl) (fun _ => by kernel_rfl) (BothNilF_tr  y6_0 hy6_0) ?_
          rintro _ _ ⟨b6_0_0, b6_0_1, rfl, rfl⟩
          refine s_pure 49 (.tuple #[.pointer (some ⟨b6_0_0, 0, none⟩), .pointer (some ⟨b6_0_1, 0, none⟩)]) (by kernel_rfl) (by kernel_rfl) (fun _ => by kernel_rfl) ?_
          refine s_pure 51 (.pointer (some ⟨b6_0_0, 0, none⟩)) (by kernel_rfl) (by kernel_rfl) (fun _ => by kernel_rfl) ?_
          refine s_pure 52 (.pointer (some ⟨b6_0_1, 0, none⟩)) (by kernel_rfl) (by kernel_rfl) (fun _ => by kernel_rfl) ?_
          refine s_pure 14 (.pointer (some ⟨b6_0_0, 0, none⟩)) (by kernel_rfl) (by kernel_rfl) (fun _ => by kernel_rfl) ?_
          refine s_pure 15 (.pointer (some ⟨b6_0_1, 0, none⟩)) (by kernel_rfl) (by kernel_rfl) (fun _ => by kernel_rfl) ?_
          refine ops_end ?_
          refine At.env [(0, .int .i64 e0_0), (1, .int .i64 e0_1), (2, .int .i64 e1_2), (3, .int .i64 data), (4, .bool e3_4), (5, .bool there), (13, .bool e2_13), (14, .pointer (some ⟨b6_0_0, 0, none⟩))] ⟨by kernel_rfl, by kernel_rfl, by kernel_rfl, by kernel_rfl, by kernel_rfl, by kernel_rfl, by kernel_rfl, by kernel_rfl, trivial⟩ ?_
          refine at_then_normal ?_
          refine at_seq (x := C8 [1,1,1,1,1,1,0]) (y := C8 [1,1,1,1,1,1,1]) (by kernel_rfl) ?_
          refine at_seq (x := C8 [1,1,1,1,1,1,0,0]) (y := C8 [1,1,1,1,1,1,0,1]) (by kernel_rfl) ?_
          refine at_region (id := 7) 2 (by kernel_rfl) (by kernel_rfl) ?_
          refine s_pure 53 (.pointer (some ⟨b6_0_0, 0, none⟩)) (by kernel_rfl) (by kernel_rfl) (fun _ => by kernel_rfl) ?_
          refine s_pure 54 (.bool false) (by kernel_rfl) (by kernel_rfl) (fun _ => by kernel_rfl) ?_
          refine ops_end ?_
          refine At.env [(0, .int .i64 e0_0), (1, .int .i64 e0_1), (2, .int .i64 e1_2), (3, .int .i64 data), (4, .bool e3_4), (5, .bool there), (13, .bool e2_13), (14, .pointer (some ⟨b6_0_0, 0, none⟩)), (54, .bool false)] ⟨by kernel_rfl, by kernel_rfl, by kernel_rfl, by kernel_rfl, by kernel_rfl, by kernel_rfl, by kernel_rfl, by kernel_rfl, by kernel_rfl, trivial⟩ ?_
          refine at_then_normal ?_
          refine at_false (t := false) (x := C8 [1,1,1,1,1,1,0,1,0]) (y := C8 [1,1,1,1,1,1,0,1,1]) (o := .tmp 54) (by kernel_rfl) (by kernel_rfl) (by kernel_rfl) rfl ?_
          refine at_skip (by kernel_rfl) ?_
          refine at_then_normal ?_
          refine at_seq (x := C8 [1,1,1,1,1,1,1,0]) (y := C8 [1,1,1,1,1,1,1,1]) (by kernel_rfl) ?_
          refine at_region (id := 9) 1 (by kernel_rfl) (by kernel_rfl) ?_
          refine s_pure 16 (.int .i64 (1)) (by kernel_rfl) (by kernel_rfl) (fun _ => by kernel_rfl) ?_
          refine ops_end ?_
          refine At.env [(0, .int .i64 e0_0), (1, .int .i64 e0_1), (2, .int .i64 e1_2), (3, .int .i64 data), (4, .bool e3_4), (5, .bool there), (13, .bool e2_13), (14, .pointer (some ⟨b6_0_0, 0, none⟩)), (16, .int .i64 (1))] ⟨by kernel_rfl, by kernel_rfl, by kernel_rfl, by kernel_rfl, by kernel_rfl, by kernel_rfl, by kernel_rfl, by kernel_rfl, by kernel_rfl, trivial⟩ ?_
          refine at_then_normal ?_
          refine at_seq_join (x := C8 [1,1,1,1,1,1,1,1,0]) (y := C8 [1,1,1,1,1,1,1,1,1]) (fun ff ΔΔ => ∃ (e4_16 : Int), rolloutLeavesS_j4 there data e0_0 e0_1 e3_4 y6_0 e1_2 e2_13 e4_16 = some y ∧ ff = [(0, .int .i64 e0_0), (1, .int .i64 e0_1), (2, .int .i64 e1_2), (3, .int .i64 data), (4, .bool e3_4), (5, .bool there), (13, .bool e2_13), (14, .pointer (some ⟨b6_0_0, 0, none⟩)), (16, .int .i64 e4_16)] ∧ (CacheA b6_0_0 y6_0.1) :: (RCacheA b6_0_1 y6_0.2) :: Γ = ΔΔ) (by kernel_rfl) ?_ ?_
          · rintro _ _ ⟨e4_16, H, rfl, rfl⟩
            rw [rolloutLeavesS_j4] at H
            refine at_seq_join (x := C8 [1,1,1,1,1,1,1,1,1,0]) (y := C8 [1,1,1,1,1,1,1,1,1,1]) (fun ff ΔΔ => ∃ (e5_b6_0_0 : CacheS), rolloutLeavesS_j5 data e1_2 e4_16 there e0_1 e0_0 e2_13 e3_4 e5_b6_0_0 = some y ∧ ff = [(0, .int .i64 e0_0), (1, .int .i64 e0_1), (2, .int .i64 e1_2), (3, .int .i64 data), (4, .bool e3_4), (5, .bool there), (13, .bool e2_13), (14, .pointer (some ⟨b6_0_0, 0, none⟩)), (16, .int .i64 e4_16)] ∧ (CacheA b6_0_0 e5_b6_0_0) :: (RCacheA b6_0_1 y6_0.2) :: Γ = ΔΔ) (by kernel_rfl) ?_ ?_
            · rintro _ _ ⟨e5_b6_0_0, H, rfl, rfl⟩
              rw [rolloutLeavesS_j5] at H
              refine at_seq (x := C8 [1,1,1,1,1,1,1,1,1,1,0]) (y := C8 [1,1,1,1,1,1,1,1,1,1,1]) (by kernel_rfl) ?_
              refine at_region (id := 14) 15 (by kernel_rfl) (by kernel_rfl) ?_
              obtain ⟨y14_0, hy14_0, H⟩ := bindE H
              refine s_call 66 17 #[.int .i64 (3), .int .i64 (1), .int .i64 (5)] (by kernel_rfl) (by kernel_rfl) (fun _ => by kernel_rfl) (DBeginF_tr (3 : Int) (1 : Int) (5 : Int) y14_0 hy14_0) ?_
              rintro _ _ ⟨a14_0_00, c14_0_00, rfl, rfl⟩
              refine s_pure 67 (.pointer (some ⟨b6_0_0, 0, none⟩)) (by kernel_rfl) (by kernel_rfl) (fun _ => by kernel_rfl) ?_
              refine s_pure 68 (.int .i64 e1_2) (by kernel_rfl) (by kernel_rfl) (fun _ => by kernel_rfl) ?_
              refine s_pure 69 (.int .i64 e4_16) (by kernel_rfl) (by kernel_rfl) (fun _ => by kernel_rfl) ?_
              refine s_pure 70 (.int .i64 data) (by kernel_rfl) (by kernel_rfl) (fun _ => by kernel_rfl) ?_
              refine s_pure 71 (.int .i64 (wr (data + (1 : Int)))) (by kernel_rfl) (by kernel_rfl) (fun _ => by kernel_rfl) ?_
              obtain ⟨l14_6, hl14_6, H⟩ := letE H
              refine s_step 72 (by kernel_rfl) (by kernel_rfl) (st_new_ints (T := 3) (xs := l14_6) 1 hl14_6 (fun _ => by kernel_rfl) (by kernel_rfl)) ?_
              rintro _ _ ⟨b14_6, rfl, rfl⟩
              refine s_pure 73 (.agg #[.int .i64 (7), .int .i64 (0), .int .i64 (0), .int .i64 (5), .int .i64 (1), .int .i64 e1_2, .int .i64 e4_16, .bool false, .slice (some ⟨b14_6, 0, none⟩) (List.length l14_6) 1]) (by kernel_rfl) (by kernel_rfl) (fun _ => by kernel_rfl) ?_
              obtain ⟨y14_8, hy14_8, H⟩ := bindE H
              refine s_call 74 30 #[.agg #[.int .i64 y14_0.kind, .int .i64 y14_0.line, .int .i64 y14_0.id, .int .i64 y14_0.step, .int .i64 y14_0.state, .int .i64 y14_0.head, .slice a14_0_00 (List.length y14_0.data) c14_0_00, .int .i64 y14_0.next, .int .i64 y14_0.told], .int .i64 (2), .pointer (some ⟨b6_0_0, 0, none⟩), .agg #[.int .i64 (7), .int .i64 (0), .int .i64 (0), .int .i64 (5), .int .i64 (1), .int .i64 e1_2, .int .i64 e4_16, .bool false, .slice (some ⟨b14_6, 0, none⟩) (List.length l14_6) 1]] (by kernel_rfl) (by kernel_rfl) (fun _ => by kernel_rfl) (Tr.conv (Γ' := (ImmI a14_0_00 y14_0.data) :: (CacheA b6_0_0 e5_b6_0_0) :: (ImmI a14_0_00 y14_0.data) :: (IntsA (some ⟨b14_6, 0, none⟩) 1 l14_6) :: (RCacheA b6_0_1 y6_0.2) :: Γ) (fun w hw => (Sat.less (.take .here (.take (.there (.there .here)) (.take .here (.take .here (.take .here .refl))))) (ImmR.dup (Sat.less (.take (.there .here) (.take .here (.take .here (.take .here .refl)))) hw)))) (RNextF_tr a14_0_00 c14_0_00 y14_0 (2 : Int) b6_0_0 e5_b6_0_0 (some ⟨b14_6, 0, none⟩) 1 (⟨7, 0, 0, 5, 1, e1_2, e4_16, false, l14_6⟩ : PktS) (RowsA.reads (k := 1) (.there .here)) y14_8 hy14_8)) ?_
              rintro _ _ ⟨a14_8_00, c14_8_00, rfl, rfl⟩
              refine s_pure 65 (.tuple #[.agg #[.int .i64 y14_8.1.kind, .int .i64 y14_8.1.line, .int .i64 y14_8.1.id, .int .i64 y14_8.1.step, .int .i64 y14_8.1.state, .int .i64 y14_8.1.head, .slice a14_8_00 (List.length y14_8.1.data) c14_8_00, .int .i64 y14_8.1.next, .int .i64 y14_8.1.told], .bool y14_8.2.1]) (by kernel_rfl) (by kernel_rfl) (fun _ => by kernel_rfl) ?_
              refine s_pure 75 (.agg #[.int .i64 y14_8.1.kind, .int .i64 y14_8.1.line, .int .i64 y14_8.1.id, .int .i64 y14_8.1.step, .int .i64 y14_8.1.state, .int .i64 y14_8.1.head, .slice a14_8_00 (List.length y14_8.1.data) c14_8_00, .int .i64 y14_8.1.next, .int .i64 y14_8.1.told]) (by kernel_rfl) (by kernel_rfl) (fun _ => by kernel_rfl) ?_
              refine s_pure 76 (.bool y14_8.2.1) (by kernel_rfl) (by kernel_rfl) (fun _ => by kernel_rfl) ?_
              refine s_step 17 (by kernel_rfl) (by kernel_rfl) (st_new (T := 35) (cells := #[.int .i64 (0), .int .i64 (0), .int .i64 (0), .int .i64 (0), .int .i64 (0), .int .i64 (0), .slice none 0 0, .int .i64 (0), .int .i64 (0)]) (fun a => .pointer (some a)) (fun _ => by kernel_rfl)) ?_
              rintro _ _ ⟨b14_12, rfl, rfl⟩
              refine s_do (by kernel_rfl) (by kernel_rfl) (st_store (off := 0) (vs := [.int .i64 y14_8.1.kind, .int .i64 y14_8.1.line, .int .i64 y14_8.1.id, .int .i64 y14_8.1.step, .int .i64 y14_8.1.state, .int .i64 y14_8.1.head, .slice a14_8_00 (List.length y14_8.1.data) c14_8_00, .int .i64 y14_8.1.next, .int .i64 y14_8.1.told]) (c' := #[.int .i64 y14_8.1.kind, .int .i64 y14_8.1.line, .int .i64 y14_8.1.id, .int .i64 y14_8.1.step, .int .i64 y14_8.1.state, .int .i64 y14_8.1.head, .slice a14_8_00 (List.length y14_8.1.data) c14_8_00, .int .i64 y14_8.1.next, .int .i64 y14_8.1.told]) (fun _ => by kernel_rfl) .here (by kernel_rfl) (by kernel_rfl) (by kernel_rfl)) ?_
              rintro _ _ ⟨rfl, rfl⟩
              refine s_pure 18 (.bool y14_8.2.1) (by kernel_rfl) (by kernel_rfl) (fun _ => by kernel_rfl) ?_
              refine ops_end ?_
              refine At.env [(0, .int .i64 e0_0), (1, .int .i64 e0_1), (2, .int .i64 e1_2), (3, .int .i64 data), (4, .bool e3_4), (5, .bool there), (13, .bool e2_13), (14, .pointer (some ⟨b6_0_0, 0, none⟩)), (16, .int .i64 e4_16), (17, .pointer (some ⟨b14_12, 0, none⟩)), (18, .bool y14_8.2.1)] ⟨by kernel_rfl, by kernel_rfl, by kernel_rfl, by kernel_rfl, by kernel_rfl, by kernel_rfl, by kernel_rfl, by kernel_rfl, by kernel_rfl, by kernel_rfl, by kernel_rfl, trivial⟩ ?_
              refine at_then_normal ?_
              refine at_seq (x := C8 [1,1,1,1,1,1,1,1,1,1,1,0]) (y := C8 [1,1,1,1,1,1,1,1,1,1,1,1]) (by kernel_rfl) ?_
              refine at_region (id := 15) 4 (by kernel_rfl) (by kernel_rfl) ?_
              refine s_load 77 (.agg #[.int .i64 y14_8.1.kind, .int .i64 y14_8.1.line, .int .i64 y14_8.1.id, .int .i64 y14_8.1.step, .int .i64 y14_8.1.state, .int .i64 y14_8.1.head, .slice a14_8_00 (List.length y14_8.1.data) c14_8_00, .int .i64 y14_8.1.next, .int .i64 y14_8.1.told]) (by kernel_rfl) (by kernel_rfl) (loadN (off := 0) (vs := [.int .i64 y14_8.1.kind, .int .i64 y14_8.1.line, .int .i64 y14_8.1.id, .int .i64 y14_8.1.step, .int .i64 y14_8.1.state, .int .i64 y14_8.1.head, .slice a14_8_00 (List.length y14_8.1.data) c14_8_00, .int .i64 y14_8.1.next, .int .i64 y14_8.1.told]) 9 (fun _ => by kernel_rfl) (holds_own .here) rfl (by exact ⟨rfl, rfl, rfl, rfl, rfl, rfl, rfl, rfl, rfl, trivial⟩)) ?_
              obtain ⟨y15_1, hy15_1, H⟩ := bindE H
              refine s_call 78 26 #[.agg #[.int .i64 y14_8.1.kind, .int .i64 y14_8.1.line, .int .i64 y14_8.1.id, .int .i64 y14_8.1.step, .int .i64 y14_8.1.state, .int .i64 y14_8.1.head, .slice a14_8_00 (List.length y14_8.1.data) c14_8_00, .int .i64 y14_8.1.next, .int .i64 y14_8.1.told], .int .i64 (2), .int .i64 (0)] (by kernel_rfl) (by kernel_rfl) (fun _ => by kernel_rfl) (DAskF_tr a14_8_00 c14_8_00 y14_8.1 (2 : Int) (0 : Int) (ImmR.reads (k := 1) (.there .here)) y15_1 hy15_1) ?_
              rintro _ _ ⟨a15_1_00, c15_1_00, rfl, rfl⟩
              refine s_step 19 (by kernel_rfl) (by kernel_rfl) (st_new (T := 40) (cells := #[.int .i64 (0), .int .i64 (0), .int .i64 (0), .int .i64 (0), .int .i64 (0), .int .i64 (0), .int .i64 (0), .bool false, .slice none 0 0]) (fun a => .pointer (some a)) (fun _ => by kernel_rfl)) ?_
              rintro _ _ ⟨b15_2, rfl, rfl⟩
              refine s_do (by kernel_rfl) (by kernel_rfl) (st_store (off := 0) (vs := [.int .i64 y15_1.kind, .int .i64 y15_1.src, .int .i64 y15_1.dst, .int .i64 y15_1.id, .int .i64 y15_1.line, .int .i64 y15_1.ptr, .int .i64 y15_1.state, .bool y15_1.flag, .slice a15_1_00 (List.length y15_1.data) c15_1_00]) (c' := #[.int .i64 y15_1.kind, .int .i64 y15_1.src, .int .i64 y15_1.dst, .int .i64 y15_1.id, .int .i64 y15_1.line, .int .i64 y15_1.ptr, .int .i64 y15_1.state, .bool y15_1.flag, .slice a15_1_00 (List.length y15_1.data) c15_1_00]) (fun _ => by kernel_rfl) .here (by kernel_rfl) (by kernel_rfl) (by kernel_rfl)) ?_
              rintro _ _ ⟨rfl, rfl⟩
              refine ops_end ?_
              refine At.env [(0, .int .i64 e0_0), (1, .int .i64 e0_1), (2, .int .i64 e1_2), (3, .int .i64 data), (4, .bool e3_4), (5, .bool there), (13, .bool e2_13), (14, .pointer (some ⟨b6_0_0, 0, none⟩)), (16, .int .i64 e4_16), (17, .pointer (some ⟨b14_12, 0, none⟩)), (18, .bool y14_8.2.1), (19, .pointer (some ⟨b15_2, 0, none⟩))] ⟨by kernel_rfl, by kernel_rfl, by kernel_rfl, by kernel_rfl, by kernel_rfl, by kernel_rfl, by kernel_rfl, by kernel_rfl, by kernel_rfl, by kernel_rfl, by kernel_rfl, by kernel_rfl, trivial⟩ ?_
              refine at_then_normal ?_
              refine at_seq (x := C8 [1,1,1,1,1,1,1,1,1,1,1,1,0]) (y := C8 [1,1,1,1,1,1,1,1,1,1,1,1,1]) (by kernel_rfl) ?_
              refine at_region (id := 16) 3 (by kernel_rfl) (by kernel_rfl) ?_
              refine s_pure 79 (.agg #[.int .i64 (8), .int .i64 (0), .int .i64 (0), .int .i64 (5), .int .i64 (1), .int .i64 (0), .int .i64 (0), .bool false, .slice none 0 0]) (by kernel_rfl) (by kernel_rfl) (fun _ => by kernel_rfl) ?_
              refine s_step 20 (by kernel_rfl) (by kernel_rfl) (st_new (T := 40) (cells := #[.int .i64 (0), .int .i64 (0), .int .i64 (0), .int .i64 (0), .int .i64 (0), .int .i64 (0), .int .i64 (0), .bool false, .slice none 0 0]) (fun a => .pointer (some a)) (fun _ => by kernel_rfl)) ?_
              rintro _ _ ⟨b16_1, rfl, rfl⟩
              refine s_do (by kernel_rfl) (by kernel_rfl) (st_store (off := 0) (vs := [.int .i64 (8), .int .i64 (0), .int .i64 (0), .int .i64 (5), .int .i64 (1), .int .i64 (0), .int .i64 (0), .bool false, .slice none 0 0]) (c' := #[.int .i64 (8), .int .i64 (0), .int .i64 (0), .int .i64 (5), .int .i64 (1), .int .i64 (0), .int .i64 (0), .bool false, .slice none 0 0]) (fun _ => by kernel_rfl) .here (by kernel_rfl) (by kernel_rfl) (by kernel_rfl)) ?_
              rintro _ _ ⟨rfl, rfl⟩
              refine ops_end ?_
              refine At.env [(0, .int .i64 e0_0), (1, .int .i64 e0_1), (2, .int .i64 e1_2), (3, .int .i64 data), (4, .bool e3_4), (5, .bool there), (13, .bool e2_13), (14, .pointer (some ⟨b6_0_0, 0, none⟩)), (16, .int .i64 e4_16), (17, .pointer (some ⟨b14_12, 0, none⟩)), (18, .bool y14_8.2.1), (19, .pointer (some ⟨b15_2, 0, none⟩)), (20, .pointer (some ⟨b16_1, 0, none⟩))] ⟨by kernel_rfl, by kernel_rfl, by kernel_rfl, by kernel_rfl, by kernel_rfl, by kernel_rfl, by kernel_rfl, by kernel_rfl, by kernel_rfl, by kernel_rfl, by kernel_rfl, by kernel_rfl, by kernel_rfl, trivial⟩ ?_
              refine at_then_normal ?_
              refine at_seq (x := C8 [1,1,1,1,1,1,1,1,1,1,1,1,1,0]) (y := C8 [1,1,1,1,1,1,1,1,1,1,1,1,1,1]) (by kernel_rfl) ?_
              refine at_region (id := 17) 4 (by kernel_rfl) (by kernel_rfl) ?_
              refine s_pure 80 (.int .i64 e1_2) (by kernel_rfl) (by kernel_rfl) (fun _ => by kernel_rfl) ?_
              refine s_pure 81 (.int .i64 e4_16) (by kernel_rfl) (by kernel_rfl) (fun _ => by kernel_rfl) ?_
              refine s_pure 21 (.int .i64 e1_2) (by kernel_rfl) (by kernel_rfl) (fun _ => by kernel_rfl) ?_
              refine s_pure 22 (.int .i64 e4_16) (by kernel_rfl) (by kernel_rfl) (fun _ => by kernel_rfl) ?_
              refine ops_end ?_
              refine At.env [(0, .int .i64 e0_0), (1, .int .i64 e0_1), (3, .int .i64 data), (4, .bool e3_4), (5, .bool there), (13, .bool e2_13), (14, .pointer (some ⟨b6_0_0, 0, none⟩)), (17, .pointer (some ⟨b14_12, 0, none⟩)), (18, .bool y14_8.2.1), (19, .pointer (some ⟨b15_2, 0, none⟩)), (20, .pointer (some ⟨b16_1, 0, none⟩)), (21, .int .i64 e1_2), (22, .int .i64 e4_16)] ⟨by kernel_rfl, by kernel_rfl, by kernel_rfl, by kernel_rfl, by kernel_rfl, by kernel_rfl, by kernel_rfl, by kernel_rfl, by kernel_rfl, by kernel_rfl, by kernel_rfl, by kernel_rfl, by kernel_rfl, trivial⟩ ?_
              refine at_then_normal ?_
              refine at_seq_join (x := C8 [1,1,1,1,1,1,1,1,1,1,1,1,1,1,0]) (y := C8 [1,1,1,1,1,1,1,1,1,1,1,1,1,1,1]) (fun ff ΔΔ => ∃ (e6_18 : Bool) (e6_21 : Int) (e6_22 : Int) (e6_b15_2_0 : Int) (e6_b15_2_1 : Int) (e6_b15_2_2 : Int) (e6_b15_2_3 : Int) (e6_b15_2_4 : Int) (e6_b15_2_5 : Int) (e6_b15_2_6 : Int) (e6_b15_2_7 : Bool) (e6_b15_2_8x : List Int) (e6_b14_12_0 : Int) (e6_b14_12_1 : Int) (e6_b14_12_2 : Int) (e6_b14_12_3 : Int) (e6_b14_12_4 : Int) (e6_b14_12_5 : Int) (e6_b14_12_6x : List Int) (e6_b14_12_7 : Int) (e6_b14_12_8 : Int) (e6_b6_0_0 : CacheS) (e6_b15_2_8a : Option Addr) (e6_b15_2_8c : Nat) (e6_b14_12_6a : Option Addr) (e6_b14_12_6c : Nat), rolloutLeavesS_j6 there e3_4 data e6_18 e6_21 e6_22 e6_b15_2_0 e6_b15_2_1 e6_b15_2_2 e6_b15_2_3 e6_b15_2_4 e6_b15_2_5 e6_b15_2_6 e6_b15_2_7 e6_b15_2_8x e6_b14_12_0 e6_b14_12_1 e6_b14_12_2 e6_b14_12_3 e6_b14_12_4 e6_b14_12_5 e6_b14_12_6x e6_b14_12_7 e6_b14_12_8 e6_b6_0_0 = some y ∧ ff = [(3, .int .i64 data), (4, .bool e3_4), (5, .bool there), (14, .pointer (some ⟨b6_0_0, 0, none⟩)), (17, .pointer (some ⟨b14_12, 0, none⟩)), (18, .bool e6_18), (19, .pointer (some ⟨b15_2, 0, none⟩)), (20, .pointer (some ⟨b16_1, 0, none⟩)), (21, .int .i64 e6_21), (22, .int .i64 e6_22)] ∧ (IntsA e6_b15_2_8a e6_b15_2_8c e6_b15_2_8x) :: (ImmI e6_b14_12_6a e6_b14_12_6x) :: (Asn.own b16_1 (.cells #[.int .i64 (8), .int .i64 (0), .int .i64 (0), .int .i64 (5), .int .i64 (1), .int .i64 (0), .int .i64 (0), .bool false, .slice none 0 0] 40 (0, 0))) :: (Asn.own b15_2 (.cells #[.int .i64 e6_b15_2_0, .int .i64 e6_b15_2_1, .int .i64 e6_b15_2_2, .int .i64 e6_b15_2_3, .int .i64 e6_b15_2_4, .int .i64 e6_b15_2_5, .int .i64 e6_b15_2_6, .bool e6_b15_2_7, .slice e6_b15_2_8a (List.length e6_b15_2_8x) e6_b15_2_8c] 40 (0, 0))) :: (Asn.own b14_12 (.cells #[.int .i64 e6_b14_12_0, .int .i64 e6_b14_12_1, .int .i64 e6_b14_12_2, .int .i64 e6_b14_12_3, .int .i64 e6_b14_12_4, .int .i64 e6_b14_12_5, .slice e6_b14_12_6a (List.length e6_b14_12_6x) e6_b14_12_6c, .int .i64 e6_b14_12_7, .int .i64 e6_b14_12_8] 35 (0, 0))) :: (CacheA b6_0_0 e6_b6_0_0) :: (RCacheA b6_0_1 y6_0.2) :: Γ = ΔΔ) (by kernel_rfl) ?_ ?_
              · rintro _ _ ⟨e6_18, e6_21, e6_22, e6_b15_2_0, e6_b15_2_1, e6_b15_2_2, e6_b15_2_3, e6_b15_2_4, e6_b15_2_5, e6_b15_2_6, e6_b15_2_7, e6_b15_2_8x, e6_b14_12_0, e6_b14_12_1, e6_b14_12_2, e6_b14_12_3, e6_b14_12_4, e6_b14_12_5, e6_b14_12_6x, e6_b14_12_7, e6_b14_12_8, e6_b6_0_0, e6_b15_2_8a, e6_b15_2_8c, e6_b14_12_6a, e6_b14_12_6c, H, rfl, rfl⟩
                rw [rolloutLeavesS_j6] at H
                refine at_seq_join (x := C8 [1,1,1,1,1,1,1,1,1,1,1,1,1,1,1,0]) (y := C8 [1,1,1,1,1,1,1,1,1,1,1,1,1,1,1,1]) (fun ff ΔΔ => rolloutLeavesS_j7 e6_b14_12_0 e6_b14_12_1 e6_b14_12_2 e6_b14_12_3 e6_b14_12_4 e6_b14_12_5 e6_b14_12_6x e6_b14_12_7 e6_b14_12_8 e6_b6_0_0 = some y ∧ ff = [(14, .pointer (some ⟨b6_0_0, 0, none⟩)), (17, .pointer (some ⟨b14_12, 0, none⟩)), (20, .pointer (some ⟨b16_1, 0, none⟩))] ∧ (ImmI e6_b14_12_6a e6_b14_12_6x) :: (Asn.own b16_1 (.cells #[.int .i64 (8), .int .i64 (0), .int .i64 (0), .int .i64 (5), .int .i64 (1), .int .i64 (0), .int .i64 (0), .bool false, .slice none 0 0] 40 (0, 0))) :: (Asn.own b14_12 (.cells #[.int .i64 e6_b14_12_0, .int .i64 e6_b14_12_1, .int .i64 e6_b14_12_2, .int .i64 e6_b14_12_3, .int .i64 e6_b14_12_4, .int .i64 e6_b14_12_5, .slice e6_b14_12_6a (List.length e6_b14_12_6x) e6_b14_12_6c, .int .i64 e6_b14_12_7, .int .i64 e6_b14_12_8] 35 (0, 0))) :: (CacheA b6_0_0 e6_b6_0_0) :: (RCacheA b6_0_1 y6_0.2) :: Γ = ΔΔ) (by kernel_rfl) ?_ ?_
                · rintro _ _ ⟨H, rfl, rfl⟩
                  rw [rolloutLeavesS_j7] at H
                  refine at_seq (x := C8 [1,1,1,1,1,1,1,1,1,1,1,1,1,1,1,1,0]) (y := C8 [1,1,1,1,1,1,1,1,1,1,1,1,1,1,1,1,1]) (by kernel_rfl) ?_
                  refine at_region (id := 38) 9 (by kernel_rfl) (by kernel_rfl) ?_
                  refine s_load 209 (.agg #[.int .i64 e6_b14_12_0, .int .i64 e6_b14_12_1, .int .i64 e6_b14_12_2, .int .i64 e6_b14_12_3, .int .i64 e6_b14_12_4, .int .i64 e6_b14_12_5, .slice e6_b14_12_6a (List.length e6_b14_12_6x) e6_b14_12_6c, .int .i64 e6_b14_12_7, .int .i64 e6_b14_12_8]) (by kernel_rfl) (by kernel_rfl) (loadN (off := 0) (vs := [.int .i64 e6_b14_12_0, .int .i64 e6_b14_12_1, .int .i64 e6_b14_12_2, .int .i64 e6_b14_12_3, .int .i64 e6_b14_12_4, .int .i64 e6_b14_12_5, .slice e6_b14_12_6a (List.length e6_b14_12_6x) e6_b14_12_6c, .int .i64 e6_b14_12_7, .int .i64 e6_b14_12_8]) 9 (fun _ => by kernel_rfl) (holds_own (.there (.there .here))) rfl (by exact ⟨rfl, rfl, rfl, rfl, rfl, rfl, rfl, rfl, rfl, trivial⟩)) ?_
                  refine s_pure 210 (.pointer (some ⟨b6_0_0, 0, none⟩)) (by kernel_rfl) (by kernel_rfl) (fun _ => by kernel_rfl) ?_
                  refine s_load 211 (.agg #[.int .i64 (8), .int .i64 (0), .int .i64 (0), .int .i64 (5), .int .i64 (1), .int .i64 (0), .int .i64 (0), .bool false, .slice none 0 0]) (by kernel_rfl) (by kernel_rfl) (loadN (off := 0) (vs := [.int .i64 (8), .int .i64 (0), .int .i64 (0), .int .i64 (5), .int .i64 (1), .int .i64 (0), .int .i64 (0), .bool false, .slice none 0 0]) 9 (fun _ => by kernel_rfl) (holds_own (.there .here)) rfl (by exact ⟨rfl, rfl, rfl, rfl, rfl, rfl, rfl, rfl, rfl, trivial⟩)) ?_
                  obtain ⟨y38_3, hy38_3, H⟩ := bindE H
                  refine s_call 212 30 #[.agg #[.int .i64 e6_b14_12_0, .int .i64 e6_b14_12_1, .int .i64 e6_b14_12_2, .int .i64 e6_b14_12_3, .int .i64 e6_b14_12_4, .int .i64 e6_b14_12_5, .slice e6_b14_12_6a (List.length e6_b14_12_6x) e6_b14_12_6c, .int .i64 e6_b14_12_7, .int .i64 e6_b14_12_8], .int .i64 (2), .pointer (some ⟨b6_0_0, 0, none⟩), .agg #[.int .i64 (8), .int .i64 (0), .int .i64 (0), .int .i64 (5), .int .i64 (1), .int .i64 (0), .int .i64 (0), .bool false, .slice none 0 0]] (by kernel_rfl) (by kernel_rfl) (fun _ => by kernel_rfl) (Tr.conv (Γ' := (ImmI e6_b14_12_6a e6_b14_12_6x) :: (CacheA b6_0_0 e6_b6_0_0) :: (ImmI e6_b14_12_6a e6_b14_12_6x) :: (Asn.own b16_1 (.cells #[.int .i64 (8), .int .i64 (0), .int .i64 (0), .int .i64 (5), .int .i64 (1), .int .i64 (0), .int .i64 (0), .bool false, .slice none 0 0] 40 (0, 0))) :: (Asn.own b14_12 (.cells #[.int .i64 e6_b14_12_0, .int .i64 e6_b14_12_1, .int .i64 e6_b14_12_2, .int .i64 e6_b14_12_3, .int .i64 e6_b14_12_4, .int .i64 e6_b14_12_5, .slice e6_b14_12_6a (List.length e6_b14_12_6x) e6_b14_12_6c, .int .i64 e6_b14_12_7, .int .i64 e6_b14_12_8] 35 (0, 0))) :: (RCacheA b6_0_1 y6_0.2) :: Γ) (fun w hw => (Sat.less (.take .here (.take (.there (.there (.there .here))) (.take .here (.take .here (.take .here (.take .here .refl)))))) (ImmR.dup (Sat.less (.take .here (.take .here (.take .here (.take .here (.take .here .refl))))) hw)))) (RNextF_tr e6_b14_12_6a e6_b14_12_6c (⟨e6_b14_12_0, e6_b14_12_1, e6_b14_12_2, e6_b14_12_3, e6_b14_12_4, e6_b14_12_5, e6_b14_12_6x, e6_b14_12_7, e6_b14_12_8⟩ : DealS) (2 : Int) b6_0_0 e6_b6_0_0 none 0 (⟨8, 0, 0, 5, 1, 0, 0, false, ([] : List Int)⟩ : PktS) Reads.nil y38_3 hy38_3)) ?_
                  rintro _ _ ⟨a38_3_00, c38_3_00, rfl, rfl⟩
                  refine s_pure 208 (.tuple #[.agg #[.int .i64 y38_3.1.kind, .int .i64 y38_3.1.line, .int .i64 y38_3.1.id, .int .i64 y38_3.1.step, .int .i64 y38_3.1.state, .int .i64 y38_3.1.head, .slice a38_3_00 (List.length y38_3.1.data) c38_3_00, .int .i64 y38_3.1.next, .int .i64 y38_3.1.told], .bool y38_3.2.1]) (by kernel_rfl) (by kernel_rfl) (fun _ => by kernel_rfl) ?_
                  refine s_pure 213 (.agg #[.int .i64 y38_3.1.kind, .int .i64 y38_3.1.line, .int .i64 y38_3.1.id, .int .i64 y38_3.1.step, .int .i64 y38_3.1.state, .int .i64 y38_3.1.head, .slice a38_3_00 (List.length y38_3.1.data) c38_3_00, .int .i64 y38_3.1.next, .int .i64 y38_3.1.told]) (by kernel_rfl) (by kernel_rfl) (fun _ => by kernel_rfl) ?_
                  refine s_pure 214 (.bool y38_3.2.1) (by kernel_rfl) (by kernel_rfl) (fun _ => by kernel_rfl) ?_
                  refine s_do (by kernel_rfl) (by kernel_rfl) (st_store (off := 0) (vs := [.int .i64 y38_3.1.kind, .int .i64 y38_3.1.line, .int .i64 y38_3.1.id, .int .i64 y38_3.1.step, .int .i64 y38_3.1.state, .int .i64 y38_3.1.head, .slice a38_3_00 (List.length y38_3.1.data) c38_3_00, .int .i64 y38_3.1.next, .int .i64 y38_3.1.told]) (c' := #[.int .i64 y38_3.1.kind, .int .i64 y38_3.1.line, .int .i64 y38_3.1.id, .int .i64 y38_3.1.step, .int .i64 y38_3.1.state, .int .i64 y38_3.1.head, .slice a38_3_00 (List.length y38_3.1.data) c38_3_00, .int .i64 y38_3.1.next, .int .i64 y38_3.1.told]) (fun _ => by kernel_rfl) (.there (.there (.there (.there .here)))) (by kernel_rfl) (by kernel_rfl) (by kernel_rfl)) ?_
                  rintro _ _ ⟨rfl, rfl⟩
                  refine s_pure 18 (.bool y38_3.2.1) (by kernel_rfl) (by kernel_rfl) (fun _ => by kernel_rfl) ?_
                  refine ops_end ?_
                  refine At.env [(17, .pointer (some ⟨b14_12, 0, none⟩)), (18, .bool y38_3.2.1)] ⟨by kernel_rfl, by kernel_rfl, trivial⟩ ?_
                  refine at_then_normal ?_
                  refine at_seq (x := C8 [1,1,1,1,1,1,1,1,1,1,1,1,1,1,1,1,1,0]) (y := C8 [1,1,1,1,1,1,1,1,1,1,1,1,1,1,1,1,1,1]) (by kernel_rfl) ?_
                  refine at_region (id := 39) 10 (by kernel_rfl) (by kernel_rfl) ?_
                  refine s_pure 215 (.bool y38_3.2.1) (by kernel_rfl) (by kernel_rfl) (fun _ => by kernel_rfl) ?_
                  rcases Bool.eq_false_or_eq_true (y38_3.2.1) with h1 | h1
                  · replace H := bifT H h1
                    refine s_pure 216 (.bool true) (by kernel_rfl) (by kernel_rfl) (run_eq (v := .bool (y38_3.2.1)) (fun _ => by kernel_rfl) (congrArg Value.bool h1)) ?_
                    refine s_pure 217 (.pointer (some ⟨b14_12, 3, none⟩)) (by kernel_rfl) (by kernel_rfl) (fun _ => by kernel_rfl) ?_
                    refine s_load 218 (.int .i64 y38_3.1.step) (by kernel_rfl) (by kernel_rfl) (load1 (off := 3) (fun _ => by kernel_rfl) (holds_own .here) (by kernel_rfl)) ?_
                    refine s_pure 219 (.bool (decide (y38_3.1.step = (0 : Int)))) (by kernel_rfl) (by kernel_rfl) (fun _ => by kernel_rfl) ?_
                    refine s_pure 220 (.bool (decide (y38_3.1.step = (0 : Int)))) (by kernel_rfl) (by kernel_rfl) (fun _ => by kernel_rfl) ?_
                    rcases Bool.eq_false_or_eq_true (decide (y38_3.1.step = (0 : Int))) with h2 | h2
                    · replace H := bifT H h2
                      refine s_pure 221 (.bool true) (by kernel_rfl) (by kernel_rfl) (run_eq (v := .bool (decide (y38_3.1.step = (0 : Int)))) (fun _ => by kernel_rfl) (congrArg Value.bool h2)) ?_
                      obtain ⟨y39_7, hy39_7, H⟩ := bindE H
                      refine s_call 222 31 #[] (by kernel_rfl) (by kernel_rfl) (fun _ => by kernel_rfl) (W16F_tr  y39_7 hy39_7) ?_
                      rintro _ _ ⟨rfl, rfl⟩
                      refine s_pure 223 (.bool y39_7) (by kernel_rfl) (by kernel_rfl) (fun _ => by kernel_rfl) ?_
                      refine s_pure 12 (.bool y39_7) (by kernel_rfl) (by kernel_rfl) (fun _ => by kernel_rfl) ?_
                      refine ops_end ?_
                      refine At.env [(12, .bool y39_7)] ⟨by kernel_rfl, trivial⟩ ?_
                      refine at_then_normal ?_
                      refine at_ret (by kernel_rfl) ?_
                      obtain rfl := someE H
                      refine at_backR [.bool y39_7] (Γ) (rs := [.tmp 12]) (by kernel_rfl) (.cons (.tmp (by kernel_rfl)) .nil) (fun w hw => (Sat.less (.drop .here (.drop .here (.drop .here (.drop .here (.drop .here (.drop .here .refl)))))) hw)) ?_
                      exact ⟨rfl, rfl⟩
                    · replace H := bifF H h2
                      refine s_pure 221 (.bool false) (by kernel_rfl) (by kernel_rfl) (run_eq (v := .bool (decide (y38_3.1.step = (0 : Int)))) (fun _ => by kernel_rfl) (congrArg Value.bool h2)) ?_
                      refine s_pass 222 (by kernel_rfl) (by kernel_rfl) ?_
                      refine s_pure 223 (.bool false) (by kernel_rfl) (by kernel_rfl) (fun _ => by kernel_rfl) ?_
                      refine s_pure 12 (.bool false) (by kernel_rfl) (by kernel_rfl) (fun _ => by kernel_rfl) ?_
                      refine ops_end ?_
                      refine At.env [(12, .bool false)] ⟨by kernel_rfl, trivial⟩ ?_
                      refine at_then_normal ?_
                      refine at_ret (by kernel_rfl) ?_
                      obtain rfl := someE H
                      refine at_backR [.bool false] (Γ) (rs := [.tmp 12]) (by kernel_rfl) (.cons (.tmp (by kernel_rfl)) .nil) (fun w hw => (Sat.less (.drop .here (.drop .here (.drop .here (.drop .here (.drop .here (.drop .here .refl)))))) hw)) ?_
                      exact ⟨rfl, rfl⟩
                  · replace H := bifF H h1
                    refine s_pure 216 (.bool false) (by kernel_rfl) (by kernel_rfl) (run_eq (v := .bool (y38_3.2.1)) (fun _ => by kernel_rfl) (congrArg Value.bool h1)) ?_
                    refine s_pass 217 (by kernel_rfl) (by kernel_rfl) ?_
                    refine s_pass 218 (by kernel_rfl) (by kernel_rfl) ?_
                    refine s_pass 219 (by kernel_rfl) (by kernel_rfl) ?_
                    refine s_pure 220 (.bool false) (by kernel_rfl) (by kernel_rfl) (fun _ => by kernel_rfl) ?_
                    refine s_pure 221 (.bool false) (by kernel_rfl) (by kernel_rfl) (fun _ => by kernel_rfl) ?_
                    refine s_pass 222 (by kernel_rfl) (by kernel_rfl) ?_
                    refine s_pure 223 (.bool false) (by kernel_rfl) (by kernel_rfl) (fun _ => by kernel_rfl) ?_
                    refine s_pure 12 (.bool false) (by kernel_rfl) (by kernel_rfl) (fun _ => by kernel_rfl) ?_
                    refine ops_end ?_
                    refine At.env [(12, .bool false)] ⟨by kernel_rfl, trivial⟩ ?_
                    refine at_then_normal ?_
                    refine at_ret (by kernel_rfl) ?_
                    obtain rfl := someE H
                    refine at_backR [.bool false] (Γ) (rs := [.tmp 12]) (by kernel_rfl) (.cons (.tmp (by kernel_rfl)) .nil) (fun w hw => (Sat.less (.drop .here (.drop .here (.drop .here (.drop .here (.drop .here (.drop .here .refl)))))) hw)) ?_
                    exact ⟨rfl, rfl⟩
                · refine at_seq (x := C8 [1,1,1,1,1,1,1,1,1,1,1,1,1,1,1,0,0]) (y := C8 [1,1,1,1,1,1,1,1,1,1,1,1,1,1,1,0,1]) (by kernel_rfl) ?_
                  refine at_region (id := 36) 56 (by kernel_rfl) (by kernel_rfl) ?_
                  refine s_pure 152 (.bool e6_18) (by kernel_rfl) (by kernel_rfl) (fun _ => by kernel_rfl) ?_
                  refine s_pure 153 (.bool !e6_18) (by kernel_rfl) (by kernel_rfl) (fun _ => by kernel_rfl) ?_
                  rcases Bool.eq_false_or_eq_true (!e6_18) with h3 | h3
                  · replace H := bifT H h3
                    refine s_pure 154 (.bool true) (by kernel_rfl) (by kernel_rfl) (run_eq (v := .bool (!e6_18)) (fun _ => by kernel_rfl) (congrArg Value.bool h3)) ?_
                    refine s_pass 155 (by kernel_rfl) (by kernel_rfl) ?_
                    refine s_pass 156 (by kernel_rfl) (by kernel_rfl) ?_
                    refine s_pass 157 (by kernel_rfl) (by kernel_rfl) ?_
                    refine s_pure 158 (.bool true) (by kernel_rfl) (by kernel_rfl) (fun _ => by kernel_rfl) ?_
                    refine s_pure 159 (.bool true) (by kernel_rfl) (by kernel_rfl) (fun _ => by kernel_rfl) ?_
                    refine s_pass 160 (by kernel_rfl) (by kernel_rfl) ?_
                    refine s_pass 161 (by kernel_rfl) (by kernel_rfl) ?_
                    refine s_pass 162 (by kernel_rfl) (by kernel_rfl) ?_
                    refine s_pass 163 (by kernel_rfl) (by kernel_rfl) ?_
                    refine s_pure 164 (.bool true) (by kernel_rfl) (by kernel_rfl) (fun _ => by kernel_rfl) ?_
                    refine s_pure 165 (.bool true) (by kernel_rfl) (by kernel_rfl) (fun _ => by kernel_rfl) ?_
                    refine s_pass 166 (by kernel_rfl) (by kernel_rfl) ?_
                    refine s_pass 167 (by kernel_rfl) (by kernel_rfl) ?_
                    refine s_pass 168 (by kernel_rfl) (by kernel_rfl) ?_
                    refine s_pass 169 (by kernel_rfl) (by kernel_rfl) ?_
                    refine s_pure 170 (.bool true) (by kernel_rfl) (by kernel_rfl) (fun _ => by kernel_rfl) ?_
                    refine s_pure 171 (.bool true) (by kernel_rfl) (by kernel_rfl) (fun _ => by kernel_rfl) ?_
                    refine s_pass 172 (by kernel_rfl) (by kernel_rfl) ?_
                    refine s_pass 173 (by kernel_rfl) (by kernel_rfl) ?_
                    refine s_pass 174 (by kernel_rfl) (by kernel_rfl) ?_
                    refine s_pass 175 (by kernel_rfl) (by kernel_rfl) ?_
                    refine s_pass 176 (by kernel_rfl) (by kernel_rfl) ?_
                    refine s_pass 177 (by kernel_rfl) (by kernel_rfl) ?_
                    refine s_pass 178 (by kernel_rfl) (by kernel_rfl) ?_
                    refine s_pure 179 (.bool true) (by kernel_rfl) (by kernel_rfl) (fun _ => by kernel_rfl) ?_
                    refine s_pure 180 (.bool true) (by kernel_rfl) (by kernel_rfl) (fun _ => by kernel_rfl) ?_
                    refine s_pass 181 (by kernel_rfl) (by kernel_rfl) ?_
                    refine s_pass 182 (by kernel_rfl) (by kernel_rfl) ?_
                    refine s_pass 183 (by kernel_rfl) (by kernel_rfl) ?_
                    refine s_pass 184 (by kernel_rfl) (by kernel_rfl) ?_
                    refine s_pass 185 (by kernel_rfl) (by kernel_rfl) ?_
                    refine s_pass 186 (by kernel_rfl) (by kernel_rfl) ?_
                    refine s_pass 187 (by kernel_rfl) (by kernel_rfl) ?_
                    refine s_pass 188 (by kernel_rfl) (by kernel_rfl) ?_
                    refine s_pass 189 (by kernel_rfl) (by kernel_rfl) ?_
                    refine s_pass 190 (by kernel_rfl) (by kernel_rfl) ?_
                    refine s_pure 191 (.bool true) (by kernel_rfl) (by kernel_rfl) (fun _ => by kernel_rfl) ?_
                    refine s_pure 192 (.bool true) (by kernel_rfl) (by kernel_rfl) (fun _ => by kernel_rfl) ?_
                    refine s_pass 193 (by kernel_rfl) (by kernel_rfl) ?_
                    refine s_pass 194 (by kernel_rfl) (by kernel_rfl) ?_
                    refine s_pass 195 (by kernel_rfl) (by kernel_rfl) ?_
                    refine s_pass 196 (by kernel_rfl) (by kernel_rfl) ?_
                    refine s_pass 197 (by kernel_rfl) (by kernel_rfl) ?_
                    refine s_pass 198 (by kernel_rfl) (by kernel_rfl) ?_
                    refine s_pass 199 (by kernel_rfl) (by kernel_rfl) ?_
                    refine s_pass 200 (by kernel_rfl) (by kernel_rfl) ?_
                    refine s_pass 201 (by kernel_rfl) (by kernel_rfl) ?_
                    refine s_pure 202 (.bool true) (by kernel_rfl) (by kernel_rfl) (fun _ => by kernel_rfl) ?_
                    refine s_pure 203 (.bool true) (by kernel_rfl) (by kernel_rfl) (fun _ => by kernel_rfl) ?_
                    refine s_pass 204 (by kernel_rfl) (by kernel_rfl) ?_
                    refine s_pass 205 (by kernel_rfl) (by kernel_rfl) ?_
                    refine s_pass 206 (by kernel_rfl) (by kernel_rfl) ?_
                    refine s_pure 207 (.bool true) (by kernel_rfl) (by kernel_rfl) (fun _ => by kernel_rfl) ?_
                    refine ops_end ?_
                    refine At.env [(14, .pointer (some ⟨b6_0_0, 0, none⟩)), (17, .pointer (some ⟨b14_12, 0, none⟩)), (20, .pointer (some ⟨b16_1, 0, none⟩)), (207, .bool true)] ⟨by kernel_rfl, by kernel_rfl, by kernel_rfl, by kernel_rfl, trivial⟩ ?_
                    refine at_then_normal ?_
                    refine at_true (t := true) (x := C8 [1,1,1,1,1,1,1,1,1,1,1,1,1,1,1,0,1,0]) (y := C8 [1,1,1,1,1,1,1,1,1,1,1,1,1,1,1,0,1,1]) (o := .tmp 207) (by kernel_rfl) (by kernel_rfl) (by kernel_rfl) rfl ?_
                    refine at_seq (x := C8 [1,1,1,1,1,1,1,1,1,1,1,1,1,1,1,0,1,0,0]) (y := C8 [1,1,1,1,1,1,1,1,1,1,1,1,1,1,1,0,1,0,1]) (by kernel_rfl) ?_
                    refine at_region (id := 37) 1 (by kernel_rfl) (by kernel_rfl) ?_
                    refine s_pure 12 (.bool false) (by kernel_rfl) (by kernel_rfl) (fun _ => by kernel_rfl) ?_
                    refine ops_end ?_
                    refine At.env [(12, .bool false)] ⟨by kernel_rfl, trivial⟩ ?_
                    refine at_then_normal ?_
                    refine at_ret (by kernel_rfl) ?_
                    refine at_then_ret ?_
                    obtain rfl := someE H
                    refine at_backR [.bool false] (Γ) (rs := [.tmp 12]) (by kernel_rfl) (.cons (.tmp (by kernel_rfl)) .nil) (fun w hw => (Sat.less (.drop .here (.drop .here (.drop .here (.drop .here (.drop .here (.drop .here (.drop .here .refl))))))) hw)) ?_
                    exact ⟨rfl, rfl⟩
                  · replace H := bifF H h3
                    refine s_pure 154 (.bool false) (by kernel_rfl) (by kernel_rfl) (run_eq (v := .bool (!e6_18)) (fun _ => by kernel_rfl) (congrArg Value.bool h3)) ?_
                    refine s_pure 155 (.pointer (some ⟨b15_2, 0, none⟩)) (by kernel_rfl) (by kernel_rfl) (fun _ => by kernel_rfl) ?_
                    refine s_load 156 (.int .i64 e6_b15_2_0) (by kernel_rfl) (by kernel_rfl) (load1 (off := 0) (fun _ => by kernel_rfl) (holds_own (.there (.there (.there .here)))) (by kernel_rfl)) ?_
                    refine s_pure 157 (.bool (!(decide (e6_b15_2_0 = (2 : Int))))) (by kernel_rfl) (by kernel_rfl) (fun _ => by kernel_rfl) ?_
                    refine s_pure 158 (.bool (!(decide (e6_b15_2_0 = (2 : Int))))) (by kernel_rfl) (by kernel_rfl) (fun _ => by kernel_rfl) ?_
                    rcases Bool.eq_false_or_eq_true (!(decide (e6_b15_2_0 = (2 : Int)))) with h4 | h4
                    · replace H := bifT H h4
                      refine s_pure 159 (.bool true) (by kernel_rfl) (by kernel_rfl) (run_eq (v := .bool (!(decide (e6_b15_2_0 = (2 : Int))))) (fun _ => by kernel_rfl) (congrArg Value.bool h4)) ?_
                      refine s_pass 160 (by kernel_rfl) (by kernel_rfl) ?_
                      refine s_pass 161 (by kernel_rfl) (by kernel_rfl) ?_
                      refine s_pass 162 (by kernel_rfl) (by kernel_rfl) ?_
                      refine s_pass 163 (by kernel_rfl) (by kernel_rfl) ?_
                      refine s_pure 164 (.bool true) (by kernel_rfl) (by kernel_rfl) (fun _ => by kernel_rfl) ?_
                      refine s_pure 165 (.bool true) (by kernel_rfl) (by kernel_rfl) (fun _ => by kernel_rfl) ?_
                      refine s_pass 166 (by kernel_rfl) (by kernel_rfl) ?_
                      refine s_pass 167 (by kernel_rfl) (by kernel_rfl) ?_
                      refine s_pass 168 (by kernel_rfl) (by kernel_rfl) ?_
                      refine s_pass 169 (by kernel_rfl) (by kernel_rfl) ?_
                      refine s_pure 170 (.bool true) (by kernel_rfl) (by kernel_rfl) (fun _ => by kernel_rfl) ?_
                      refine s_pure 171 (.bool true) (by kernel_rfl) (by kernel_rfl) (fun _ => by kernel_rfl) ?_
                      refine s_pass 172 (by kernel_rfl) (by kernel_rfl) ?_
                      refine s_pass 173 (by kernel_rfl) (by kernel_rfl) ?_
                      refine s_pass 174 (by kernel_rfl) (by kernel_rfl) ?_
                      refine s_pass 175 (by kernel_rfl) (by kernel_rfl) ?_
                      refine s_pass 176 (by kernel_rfl) (by kernel_rfl) ?_
                      refine s_pass 177 (by kernel_rfl) (by kernel_rfl) ?_
                      refine s_pass 178 (by kernel_rfl) (by kernel_rfl) ?_
                      refine s_pure 179 (.bool true) (by kernel_rfl) (by kernel_rfl) (fun _ => by kernel_rfl) ?_
                      refine s_pure 180 (.bool true) (by kernel_rfl) (by kernel_rfl) (fun _ => by kernel_rfl) ?_
                      refine s_pass 181 (by kernel_rfl) (by kernel_rfl) ?_
                      refine s_pass 182 (by kernel_rfl) (by kernel_rfl) ?_
                      refine s_pass 183 (by kernel_rfl) (by kernel_rfl) ?_
                      refine s_pass 184 (by kernel_rfl) (by kernel_rfl) ?_
                      refine s_pass 185 (by kernel_rfl) (by kernel_rfl) ?_
                      refine s_pass 186 (by kernel_rfl) (by kernel_rfl) ?_
                      refine s_pass 187 (by kernel_rfl) (by kernel_rfl) ?_
                      refine s_pass 188 (by kernel_rfl) (by kernel_rfl) ?_
                      refine s_pass 189 (by kernel_rfl) (by kernel_rfl) ?_
                      refine s_pass 190 (by kernel_rfl) (by kernel_rfl) ?_
                      refine s_pure 191 (.bool true) (by kernel_rfl) (by kernel_rfl) (fun _ => by kernel_rfl) ?_
                      refine s_pure 192 (.bool true) (by kernel_rfl) (by kernel_rfl) (fun _ => by kernel_rfl) ?_
                      refine s_pass 193 (by kernel_rfl) (by kernel_rfl) ?_
                      refine s_pass 194 (by kernel_rfl) (by kernel_rfl) ?_
                      refine s_pass 195 (by kernel_rfl) (by kernel_rfl) ?_
                      refine s_pass 196 (by kernel_rfl) (by kernel_rfl) ?_
                      refine s_pass 197 (by kernel_rfl) (by kernel_rfl) ?_
                      refine s_pass 198 (by kernel_rfl) (by kernel_rfl) ?_
                      refine s_pass 199 (by kernel_rfl) (by kernel_rfl) ?_
                      refine s_pass 200 (by kernel_rfl) (by kernel_rfl) ?_
                      refine s_pass 201 (by kernel_rfl) (by kernel_rfl) ?_
                      refine s_pure 202 (.bool true) (by kernel_rfl) (by kernel_rfl) (fun _ => by kernel_rfl) ?_
                      refine s_pure 203 (.bool true) (by kernel_rfl) (by kernel_rfl) (fun _ => by kernel_rfl) ?_
                      refine s_pass 204 (by kernel_rfl) (by kernel_rfl) ?_
                      refine s_pass 205 (by kernel_rfl) (by kernel_rfl) ?_
                      refine s_pass 206 (by kernel_rfl) (by kernel_rfl) ?_
                      refine s_pure 207 (.bool true) (by kernel_rfl) (by kernel_rfl) (fun _ => by kernel_rfl) ?_
                      refine ops_end ?_
                      refine At.env [(14, .pointer (some ⟨b6_0_0, 0, none⟩)), (17, .pointer (some ⟨b14_12, 0, none⟩)), (20, .pointer (some ⟨b16_1, 0, none⟩)), (207, .bool true)] ⟨by kernel_rfl, by kernel_rfl, by kernel_rfl, by kernel_rfl, trivial⟩ ?_
                      refine at_then_normal ?_
                      refine at_true (t := true) (x := C8 [1,1,1,1,1,1,1,1,1,1,1,1,1,1,1,0,1,0]) (y := C8 [1,1,1,1,1,1,1,1,1,1,1,1,1,1,1,0,1,1]) (o := .tmp 207) (by kernel_rfl) (by kernel_rfl) (by kernel_rfl) rfl ?_
                      refine at_seq (x := C8 [1,1,1,1,1,1,1,1,1,1,1,1,1,1,1,0,1,0,0]) (y := C8 [1,1,1,1,1,1,1,1,1,1,1,1,1,1,1,0,1,0,1]) (by kernel_rfl) ?_
                      refine at_region (id := 37) 1 (by kernel_rfl) (by kernel_rfl) ?_
                      refine s_pure 12 (.bool false) (by kernel_rfl) (by kernel_rfl) (fun _ => by kernel_rfl) ?_
                      refine ops_end ?_
                      refine At.env [(12, .bool false)] ⟨by kernel_rfl, trivial⟩ ?_
                      refine at_then_normal ?_
                      refine at_ret (by kernel_rfl) ?_
                      refine at_then_ret ?_
                      obtain rfl := someE H
                      refine at_backR [.bool false] (Γ) (rs := [.tmp 12]) (by kernel_rfl) (.cons (.tmp (by kernel_rfl)) .nil) (fun w hw => (Sat.less (.drop .here (.drop .here (.drop .here (.drop .here (.drop .here (.drop .here (.drop .here .refl))))))) hw)) ?_
                      exact ⟨rfl, rfl⟩
                    · replace H := bifF H h4
                      refine s_pure 159 (.bool false) (by kernel_rfl) (by kernel_rfl) (run_eq (v := .bool (!(decide (e6_b15_2_0 = (2 : Int))))) (fun _ => by kernel_rfl) (congrArg Value.bool h4)) ?_
                      refine s_pure 160 (.pointer (some ⟨b15_2, 5, none⟩)) (by kernel_rfl) (by kernel_rfl) (fun _ => by kernel_rfl) ?_
                      refine s_load 161 (.int .i64 e6_b15_2_5) (by kernel_rfl) (by kernel_rfl) (load1 (off := 5) (fun _ => by kernel_rfl) (holds_own (.there (.there (.there .here)))) (by kernel_rfl)) ?_
                      refine s_pure 162 (.int .i64 e6_21) (by kernel_rfl) (by kernel_rfl) (fun _ => by kernel_rfl) ?_
                      refine s_pure 163 (.bool (!(decide (e6_b15_2_5 = e6_21)))) (by kernel_rfl) (by kernel_rfl) (fun _ => by kernel_rfl) ?_
                      refine s_pure 164 (.bool (!(decide (e6_b15_2_5 = e6_21)))) (by kernel_rfl) (by kernel_rfl) (fun _ => by kernel_rfl) ?_
                      rcases Bool.eq_false_or_eq_true (!(decide (e6_b15_2_5 = e6_21))) with h5 | h5
                      · replace H := bifT H h5
                        refine s_pure 165 (.bool true) (by kernel_rfl) (by kernel_rfl) (run_eq (v := .bool (!(decide (e6_b15_2_5 = e6_21)))) (fun _ => by kernel_rfl) (congrArg Value.bool h5)) ?_
                        refine s_pass 166 (by kernel_rfl) (by kernel_rfl) ?_
                        refine s_pass 167 (by kernel_rfl) (by kernel_rfl) ?_
                        refine s_pass 168 (by kernel_rfl) (by kernel_rfl) ?_
                        refine s_pass 169 (by kernel_rfl) (by kernel_rfl) ?_
                        refine s_pure 170 (.bool true) (by kernel_rfl) (by kernel_rfl) (fun _ => by kernel_rfl) ?_
                        refine s_pure 171 (.bool true) (by kernel_rfl) (by kernel_rfl) (fun _ => by kernel_rfl) ?_
                        refine s_pass 172 (by kernel_rfl) (by kernel_rfl) ?_
                        refine s_pass 173 (by kernel_rfl) (by kernel_rfl) ?_
                        refine s_pass 174 (by kernel_rfl) (by kernel_rfl) ?_
                        refine s_pass 175 (by kernel_rfl) (by kernel_rfl) ?_
                        refine s_pass 176 (by kernel_rfl) (by kernel_rfl) ?_
                        refine s_pass 177 (by kernel_rfl) (by kernel_rfl) ?_
                        refine s_pass 178 (by kernel_rfl) (by kernel_rfl) ?_
                        refine s_pure 179 (.bool true) (by kernel_rfl) (by kernel_rfl) (fun _ => by kernel_rfl) ?_
                        refine s_pure 180 (.bool true) (by kernel_rfl) (by kernel_rfl) (fun _ => by kernel_rfl) ?_
                        refine s_pass 181 (by kernel_rfl) (by kernel_rfl) ?_
                        refine s_pass 182 (by kernel_rfl) (by kernel_rfl) ?_
                        refine s_pass 183 (by kernel_rfl) (by kernel_rfl) ?_
                        refine s_pass 184 (by kernel_rfl) (by kernel_rfl) ?_
                        refine s_pass 185 (by kernel_rfl) (by kernel_rfl) ?_
                        refine s_pass 186 (by kernel_rfl) (by kernel_rfl) ?_
                        refine s_pass 187 (by kernel_rfl) (by kernel_rfl) ?_
                        refine s_pass 188 (by kernel_rfl) (by kernel_rfl) ?_
                        refine s_pass 189 (by kernel_rfl) (by kernel_rfl) ?_
                        refine s_pass 190 (by kernel_rfl) (by kernel_rfl) ?_
                        refine s_pure 191 (.bool true) (by kernel_rfl) (by kernel_rfl) (fun _ => by kernel_rfl) ?_
                        refine s_pure 192 (.bool true) (by kernel_rfl) (by kernel_rfl) (fun _ => by kernel_rfl) ?_
                        refine s_pass 193 (by kernel_rfl) (by kernel_rfl) ?_
                        refine s_pass 194 (by kernel_rfl) (by kernel_rfl) ?_
                        refine s_pass 195 (by kernel_rfl) (by kernel_rfl) ?_
                        refine s_pass 196 (by kernel_rfl) (by kernel_rfl) ?_
                        refine s_pass 197 (by kernel_rfl) (by kernel_rfl) ?_
                        refine s_pass 198 (by kernel_rfl) (by kernel_rfl) ?_
                        refine s_pass 199 (by kernel_rfl) (by kernel_rfl) ?_
                        refine s_pass 200 (by kernel_rfl) (by kernel_rfl) ?_
                        refine s_pass 201 (by kernel_rfl) (by kernel_rfl) ?_
                        refine s_pure 202 (.bool true) (by kernel_rfl) (by kernel_rfl) (fun _ => by kernel_rfl) ?_
                        refine s_pure 203 (.bool true) (by kernel_rfl) (by kernel_rfl) (fun _ => by kernel_rfl) ?_
                        refine s_pass 204 (by kernel_rfl) (by kernel_rfl) ?_
                        refine s_pass 205 (by kernel_rfl) (by kernel_rfl) ?_
                        refine s_pass 206 (by kernel_rfl) (by kernel_rfl) ?_
                        refine s_pure 207 (.bool true) (by kernel_rfl) (by kernel_rfl) (fun _ => by kernel_rfl) ?_
                        refine ops_end ?_
                        refine At.env [(14, .pointer (some ⟨b6_0_0, 0, none⟩)), (17, .pointer (some ⟨b14_12, 0, none⟩)), (20, .pointer (some ⟨b16_1, 0, none⟩)), (207, .bool true)] ⟨by kernel_rfl, by kernel_rfl, by kernel_rfl, by kernel_rfl, trivial⟩ ?_
                        refine at_then_normal ?_
                        refine at_true (t := true) (x := C8 [1,1,1,1,1,1,1,1,1,1,1,1,1,1,1,0,1,0]) (y := C8 [1,1,1,1,1,1,1,1,1,1,1,1,1,1,1,0,1,1]) (o := .tmp 207) (by kernel_rfl) (by kernel_rfl) (by kernel_rfl) rfl ?_
                        refine at_seq (x := C8 [1,1,1,1,1,1,1,1,1,1,1,1,1,1,1,0,1,0,0]) (y := C8 [1,1,1,1,1,1,1,1,1,1,1,1,1,1,1,0,1,0,1]) (by kernel_rfl) ?_
                        refine at_region (id := 37) 1 (by kernel_rfl) (by kernel_rfl) ?_
                        refine s_pure 12 (.bool false) (by kernel_rfl) (by kernel_rfl) (fun _ => by kernel_rfl) ?_
                        refine ops_end ?_
                        refine At.env [(12, .bool false)] ⟨by kernel_rfl, trivial⟩ ?_
                        refine at_then_normal ?_
                        refine at_ret (by kernel_rfl) ?_
                        refine at_then_ret ?_
                        obtain rfl := someE H
                        refine at_backR [.bool false] (Γ) (rs := [.tmp 12]) (by kernel_rfl) (.cons (.tmp (by kernel_rfl)) .nil) (fun w hw => (Sat.less (.drop .here (.drop .here (.drop .here (.drop .here (.drop .here (.drop .here (.drop .here .refl))))))) hw)) ?_
                        exact ⟨rfl, rfl⟩
                      · replace H := bifF H h5
                        refine s_pure 165 (.bool false) (by kernel_rfl) (by kernel_rfl) (run_eq (v := .bool (!(decide (e6_b15_2_5 = e6_21)))) (fun _ => by kernel_rfl) (congrArg Value.bool h5)) ?_
                        refine s_pure 166 (.pointer (some ⟨b15_2, 6, none⟩)) (by kernel_rfl) (by kernel_rfl) (fun _ => by kernel_rfl) ?_
                        refine s_load 167 (.int .i64 e6_b15_2_6) (by kernel_rfl) (by kernel_rfl) (load1 (off := 6) (fun _ => by kernel_rfl) (holds_own (.there (.there (.there .here)))) (by kernel_rfl)) ?_
                        refine s_pure 168 (.int .i64 e6_22) (by kernel_rfl) (by kernel_rfl) (fun _ => by kernel_rfl) ?_
                        refine s_pure 169 (.bool (!(decide (e6_b15_2_6 = e6_22)))) (by kernel_rfl) (by kernel_rfl) (fun _ => by kernel_rfl) ?_
                        refine s_pure 170 (.bool (!(decide (e6_b15_2_6 = e6_22)))) (by kernel_rfl) (by kernel_rfl) (fun _ => by kernel_rfl) ?_
                        rcases Bool.eq_false_or_eq_true (!(decide (e6_b15_2_6 = e6_22))) with h6 | h6
                        · replace H := bifT H h6
                          refine s_pure 171 (.bool true) (by kernel_rfl) (by kernel_rfl) (run_eq (v := .bool (!(decide (e6_b15_2_6 = e6_22)))) (fun _ => by kernel_rfl) (congrArg Value.bool h6)) ?_
                          refine s_pass 172 (by kernel_rfl) (by kernel_rfl) ?_
                          refine s_pass 173 (by kernel_rfl) (by kernel_rfl) ?_
                          refine s_pass 174 (by kernel_rfl) (by kernel_rfl) ?_
                          refine s_pass 175 (by kernel_rfl) (by kernel_rfl) ?_
                          refine s_pass 176 (by kernel_rfl) (by kernel_rfl) ?_
                          refine s_pass 177 (by kernel_rfl) (by kernel_rfl) ?_
                          refine s_pass 178 (by kernel_rfl) (by kernel_rfl) ?_
                          refine s_pure 179 (.bool true) (by kernel_rfl) (by kernel_rfl) (fun _ => by kernel_rfl) ?_
                          refine s_pure 180 (.bool true) (by kernel_rfl) (by kernel_rfl) (fun _ => by kernel_rfl) ?_
                          refine s_pass 181 (by kernel_rfl) (by kernel_rfl) ?_
                          refine s_pass 182 (by kernel_rfl) (by kernel_rfl) ?_
                          refine s_pass 183 (by kernel_rfl) (by kernel_rfl) ?_
                          refine s_pass 184 (by kernel_rfl) (by kernel_rfl) ?_
                          refine s_pass 185 (by kernel_rfl) (by kernel_rfl) ?_
                          refine s_pass 186 (by kernel_rfl) (by kernel_rfl) ?_
                          refine s_pass 187 (by kernel_rfl) (by kernel_rfl) ?_
                          refine s_pass 188 (by kernel_rfl) (by kernel_rfl) ?_
                          refine s_pass 189 (by kernel_rfl) (by kernel_rfl) ?_
                          refine s_pass 190 (by kernel_rfl) (by kernel_rfl) ?_
                          refine s_pure 191 (.bool true) (by kernel_rfl) (by kernel_rfl) (fun _ => by kernel_rfl) ?_
                          refine s_pure 192 (.bool true) (by kernel_rfl) (by kernel_rfl) (fun _ => by kernel_rfl) ?_
                          refine s_pass 193 (by kernel_rfl) (by kernel_rfl) ?_
                          refine s_pass 194 (by kernel_rfl) (by kernel_rfl) ?_
                          refine s_pass 195 (by kernel_rfl) (by kernel_rfl) ?_
                          refine s_pass 196 (by kernel_rfl) (by kernel_rfl) ?_
                          refine s_pass 197 (by kernel_rfl) (by kernel_rfl) ?_
                          refine s_pass 198 (by kernel_rfl) (by kernel_rfl) ?_
                          refine s_pass 199 (by kernel_rfl) (by kernel_rfl) ?_
                          refine s_pass 200 (by kernel_rfl) (by kernel_rfl) ?_
                          refine s_pass 201 (by kernel_rfl) (by kernel_rfl) ?_
                          refine s_pure 202 (.bool true) (by kernel_rfl) (by kernel_rfl) (fun _ => by kernel_rfl) ?_
                          refine s_pure 203 (.bool true) (by kernel_rfl) (by kernel_rfl) (fun _ => by kernel_rfl) ?_
                          refine s_pass 204 (by kernel_rfl) (by kernel_rfl) ?_
                          refine s_pass 205 (by kernel_rfl) (by kernel_rfl) ?_
                          refine s_pass 206 (by kernel_rfl) (by kernel_rfl) ?_
                          refine s_pure 207 (.bool true) (by kernel_rfl) (by kernel_rfl) (fun _ => by kernel_rfl) ?_
                          refine ops_end ?_
                          refine At.env [(14, .pointer (some ⟨b6_0_0, 0, none⟩)), (17, .pointer (some ⟨b14_12, 0, none⟩)), (20, .pointer (some ⟨b16_1, 0, none⟩)), (207, .bool true)] ⟨by kernel_rfl, by kernel_rfl, by kernel_rfl, by kernel_rfl, trivial⟩ ?_
                          refine at_then_normal ?_
                          refine at_true (t := true) (x := C8 [1,1,1,1,1,1,1,1,1,1,1,1,1,1,1,0,1,0]) (y := C8 [1,1,1,1,1,1,1,1,1,1,1,1,1,1,1,0,1,1]) (o := .tmp 207) (by kernel_rfl) (by kernel_rfl) (by kernel_rfl) rfl ?_
                          refine at_seq (x := C8 [1,1,1,1,1,1,1,1,1,1,1,1,1,1,1,0,1,0,0]) (y := C8 [1,1,1,1,1,1,1,1,1,1,1,1,1,1,1,0,1,0,1]) (by kernel_rfl) ?_
                          refine at_region (id := 37) 1 (by kernel_rfl) (by kernel_rfl) ?_
                          refine s_pure 12 (.bool false) (by kernel_rfl) (by kernel_rfl) (fun _ => by kernel_rfl) ?_
                          refine ops_end ?_
                          refine At.env [(12, .bool false)] ⟨by kernel_rfl, trivial⟩ ?_
                          refine at_then_normal ?_
                          refine at_ret (by kernel_rfl) ?_
                          refine at_then_ret ?_
                          obtain rfl := someE H
                          refine at_backR [.bool false] (Γ) (rs := [.tmp 12]) (by kernel_rfl) (.cons (.tmp (by kernel_rfl)) .nil) (fun w hw => (Sat.less (.drop .here (.drop .here (.drop .here (.drop .here (.drop .here (.drop .here (.drop .here .refl))))))) hw)) ?_
                          exact ⟨rfl, rfl⟩
                        · replace H := bifF H h6
                          refine s_pure 171 (.bool false) (by kernel_rfl) (by kernel_rfl) (run_eq (v := .bool (!(decide (e6_b15_2_6 = e6_22)))) (fun _ => by kernel_rfl) (congrArg Value.bool h6)) ?_
                          refine s_pure 172 (.pointer (some ⟨b15_2, 7, none⟩)) (by kernel_rfl) (by kernel_rfl) (fun _ => by kernel_rfl) ?_
                          refine s_load 173 (.bool e6_b15_2_7) (by kernel_rfl) (by kernel_rfl) (load1 (off := 7) (fun _ => by kernel_rfl) (holds_own (.there (.there (.there .here)))) (by kernel_rfl)) ?_
                          refine s_pure 174 (.bool there) (by kernel_rfl) (by kernel_rfl) (fun _ => by kernel_rfl) ?_
                          rcases Bool.eq_false_or_eq_true (there) with h7 | h7
                          · replace H := bifT H h7
                            refine s_pure 175 (.bool true) (by kernel_rfl) (by kernel_rfl) (run_eq (v := .bool (there)) (fun _ => by kernel_rfl) (congrArg Value.bool h7)) ?_
                            refine s_pure 176 (.bool e3_4) (by kernel_rfl) (by kernel_rfl) (fun _ => by kernel_rfl) ?_
                            refine s_pure 177 (.bool e3_4) (by kernel_rfl) (by kernel_rfl) (fun _ => by kernel_rfl) ?_
                            refine s_pure 178 (.bool (!(e6_b15_2_7 == e3_4))) (by kernel_rfl) (by kernel_rfl) (fun _ => by kernel_rfl) ?_
                            refine s_pure 179 (.bool (!(e6_b15_2_7 == e3_4))) (by kernel_rfl) (by kernel_rfl) (fun _ => by kernel_rfl) ?_
                            rcases Bool.eq_false_or_eq_true (!(e6_b15_2_7 == e3_4)) with h8 | h8
                            · replace H := bifT H h8
                              refine s_pure 180 (.bool true) (by kernel_rfl) (by kernel_rfl) (run_eq (v := .bool (!(e6_b15_2_7 == e3_4))) (fun _ => by kernel_rfl) (congrArg Value.bool h8)) ?_
                              refine s_pass 181 (by kernel_rfl) (by kernel_rfl) ?_
                              refine s_pass 182 (by kernel_rfl) (by kernel_rfl) ?_
                              refine s_pass 183 (by kernel_rfl) (by kernel_rfl) ?_
                              refine s_pass 184 (by kernel_rfl) (by kernel_rfl) ?_
                              refine s_pass 185 (by kernel_rfl) (by kernel_rfl) ?_
                              refine s_pass 186 (by kernel_rfl) (by kernel_rfl) ?_
                              refine s_pass 187 (by kernel_rfl) (by kernel_rfl) ?_
                              refine s_pass 188 (by kernel_rfl) (by kernel_rfl) ?_
                              refine s_pass 189 (by kernel_rfl) (by kernel_rfl) ?_
                              refine s_pass 190 (by kernel_rfl) (by kernel_rfl) ?_
                              refine s_pure 191 (.bool true) (by kernel_rfl) (by kernel_rfl) (fun _ => by kernel_rfl) ?_
                              refine s_pure 192 (.bool true) (by kernel_rfl) (by kernel_rfl) (fun _ => by kernel_rfl) ?_
                              refine s_pass 193 (by kernel_rfl) (by kernel_rfl) ?_
                              refine s_pass 194 (by kernel_rfl) (by kernel_rfl) ?_
                              refine s_pass 195 (by kernel_rfl) (by kernel_rfl) ?_
                              refine s_pass 196 (by kernel_rfl) (by kernel_rfl) ?_
                              refine s_pass 197 (by kernel_rfl) (by kernel_rfl) ?_
                              refine s_pass 198 (by kernel_rfl) (by kernel_rfl) ?_
                              refine s_pass 199 (by kernel_rfl) (by kernel_rfl) ?_
                              refine s_pass 200 (by kernel_rfl) (by kernel_rfl) ?_
                              refine s_pass 201 (by kernel_rfl) (by kernel_rfl) ?_
                              refine s_pure 202 (.bool true) (by kernel_rfl) (by kernel_rfl) (fun _ => by kernel_rfl) ?_
                              refine s_pure 203 (.bool true) (by kernel_rfl) (by kernel_rfl) (fun _ => by kernel_rfl) ?_
                              refine s_pass 204 (by kernel_rfl) (by kernel_rfl) ?_
                              refine s_pass 205 (by kernel_rfl) (by kernel_rfl) ?_
                              refine s_pass 206 (by kernel_rfl) (by kernel_rfl) ?_
                              refine s_pure 207 (.bool true) (by kernel_rfl) (by kernel_rfl) (fun _ => by kernel_rfl) ?_
                              refine ops_end ?_
                              refine At.env [(14, .pointer (some ⟨b6_0_0, 0, none⟩)), (17, .pointer (some ⟨b14_12, 0, none⟩)), (20, .pointer (some ⟨b16_1, 0, none⟩)), (207, .bool true)] ⟨by kernel_rfl, by kernel_rfl, by kernel_rfl, by kernel_rfl, trivial⟩ ?_
                              refine at_then_normal ?_
                              refine at_true (t := true) (x := C8 [1,1,1,1,1,1,1,1,1,1,1,1,1,1,1,0,1,0]) (y := C8 [1,1,1,1,1,1,1,1,1,1,1,1,1,1,1,0,1,1]) (o := .tmp 207) (by kernel_rfl) (by kernel_rfl) (by kernel_rfl) rfl ?_
                              refine at_seq (x := C8 [1,1,1,1,1,1,1,1,1,1,1,1,1,1,1,0,1,0,0]) (y := C8 [1,1,1,1,1,1,1,1,1,1,1,1,1,1,1,0,1,0,1]) (by kernel_rfl) ?_
                              refine at_region (id := 37) 1 (by kernel_rfl) (by kernel_rfl) ?_
                              refine s_pure 12 (.bool false) (by kernel_rfl) (by kernel_rfl) (fun _ => by kernel_rfl) ?_
                              refine ops_end ?_
                              refine At.env [(12, .bool false)] ⟨by kernel_rfl, trivial⟩ ?_
                              refine at_then_normal ?_
                              refine at_ret (by kernel_rfl) ?_
                              refine at_then_ret ?_
                              obtain rfl := someE H
                              refine at_backR [.bool false] (Γ) (rs := [.tmp 12]) (by kernel_rfl) (.cons (.tmp (by kernel_rfl)) .nil) (fun w hw => (Sat.less (.drop .here (.drop .here (.drop .here (.drop .here (.drop .here (.drop .here (.drop .here .refl))))))) hw)) ?_
                              exact ⟨rfl, rfl⟩
                            · replace H := bifF H h8
                              refine s_pure 180 (.bool false) (by kernel_rfl) (by kernel_rfl) (run_eq (v := .bool (!(e6_b15_2_7 == e3_4))) (fun _ => by kernel_rfl) (congrArg Value.bool h8)) ?_
                              refine s_pure 181 (.pointer (some ⟨b15_2, 7, none⟩)) (by kernel_rfl) (by kernel_rfl) (fun _ => by kernel_rfl) ?_
                              refine s_load 182 (.bool e6_b15_2_7) (by kernel_rfl) (by kernel_rfl) (load1 (off := 7) (fun _ => by kernel_rfl) (holds_own (.there (.there (.there .here)))) (by kernel_rfl)) ?_
                              rcases Bool.eq_false_or_eq_true (e6_b15_2_7) with h9 | h9
                              · replace H := bifT H h9
                                refine s_pure 183 (.bool true) (by kernel_rfl) (by kernel_rfl) (run_eq (v := .bool (e6_b15_2_7)) (fun _ => by kernel_rfl) (congrArg Value.bool h9)) ?_
                                refine s_pure 184 (.pointer (some ⟨b15_2, 8, none⟩)) (by kernel_rfl) (by kernel_rfl) (fun _ => by kernel_rfl) ?_
                                refine s_load 185 (.slice e6_b15_2_8a (List.length e6_b15_2_8x) e6_b15_2_8c) (by kernel_rfl) (by kernel_rfl) (load1 (off := 8) (fun _ => by kernel_rfl) (holds_own (.there (.there (.there .here)))) (by kernel_rfl)) ?_
                                refine s_pure 186 (.int .i64 data) (by kernel_rfl) (by kernel_rfl) (fun _ => by kernel_rfl) ?_
                                obtain ⟨l36_35, hl36_35, H⟩ := letE H
                                refine s_step 187 (by kernel_rfl) (by kernel_rfl) (st_new_ints (T := 3) (xs := l36_35) 1 hl36_35 (fun _ => by kernel_rfl) (by kernel_rfl)) ?_
                                rintro _ _ ⟨b36_35, rfl, rfl⟩
                                obtain ⟨y36_36, hy36_36, H⟩ := bindE H
                                refine s_call 188 27 #[.slice e6_b15_2_8a (List.length e6_b15_2_8x) e6_b15_2_8c, .slice (some ⟨b36_35, 0, none⟩) (List.length l36_35) 1] (by kernel_rfl) (by kernel_rfl) (fun _ => by kernel_rfl) (KSameF_tr e6_b15_2_8a e6_b15_2_8c e6_b15_2_8x (some ⟨b36_35, 0, none⟩) 1 l36_35 (RowsA.reads (k := 1) (.there .here)) (RowsA.reads (k := 1) .here) y36_36 hy36_36) ?_
                                rintro _ _ ⟨rfl, rfl⟩
                                refine s_pure 189 (.bool !y36_36) (by kernel_rfl) (by kernel_rfl) (fun _ => by kernel_rfl) ?_
                                refine s_pure 190 (.bool !y36_36) (by kernel_rfl) (by kernel_rfl) (fun _ => by kernel_rfl) ?_
                                refine s_pure 191 (.bool !y36_36) (by kernel_rfl) (by kernel_rfl) (fun _ => by kernel_rfl) ?_
                                rcases Bool.eq_false_or_eq_true (!y36_36) with h10 | h10
                                · replace H := bifT H h10
                                  refine s_pure 192 (.bool true) (by kernel_rfl) (by kernel_rfl) (run_eq (v := .bool (!y36_36)) (fun _ => by kernel_rfl) (congrArg Value.bool h10)) ?_
                                  refine s_pass 193 (by kernel_rfl) (by kernel_rfl) ?_
                                  refine s_pass 194 (by kernel_rfl) (by kernel_rfl) ?_
                                  refine s_pass 195 (by kernel_rfl) (by kernel_rfl) ?_
                                  refine s_pass 196 (by kernel_rfl) (by kernel_rfl) ?_
                                  refine s_pass 197 (by kernel_rfl) (by kernel_rfl) ?_
                                  refine s_pass 198 (by kernel_rfl) (by kernel_rfl) ?_
                                  refine s_pass 199 (by kernel_rfl) (by kernel_rfl) ?_
                                  refine s_pass 200 (by kernel_rfl) (by kernel_rfl) ?_
                                  refine s_pass 201 (by kernel_rfl) (by kernel_rfl) ?_
                                  refine s_pure 202 (.bool true) (by kernel_rfl) (by kernel_rfl) (fun _ => by kernel_rfl) ?_
                                  refine s_pure 203 (.bool true) (by kernel_rfl) (by kernel_rfl) (fun _ => by kernel_rfl) ?_
                                  refine s_pass 204 (by kernel_rfl) (by kernel_rfl) ?_
                                  refine s_pass 205 (by kernel_rfl) (by kernel_rfl) ?_
                                  refine s_pass 206 (by kernel_rfl) (by kernel_rfl) ?_
                                  refine s_pure 207 (.bool true) (by kernel_rfl) (by kernel_rfl) (fun _ => by kernel_rfl) ?_
                                  refine ops_end ?_
                                  refine At.env [(14, .pointer (some ⟨b6_0_0, 0, none⟩)), (17, .pointer (some ⟨b14_12, 0, none⟩)), (20, .pointer (some ⟨b16_1, 0, none⟩)), (207, .bool true)] ⟨by kernel_rfl, by kernel_rfl, by kernel_rfl, by kernel_rfl, trivial⟩ ?_
                                  refine at_then_normal ?_
                                  refine at_true (t := true) (x := C8 [1,1,1,1,1,1,1,1,1,1,1,1,1,1,1,0,1,0]) (y := C8 [1,1,1,1,1,1,1,1,1,1,1,1,1,1,1,0,1,1]) (o := .tmp 207) (by kernel_rfl) (by kernel_rfl) (by kernel_rfl) rfl ?_
                                  refine at_seq (x := C8 [1,1,1,1,1,1,1,1,1,1,1,1,1,1,1,0,1,0,0]) (y := C8 [1,1,1,1,1,1,1,1,1,1,1,1,1,1,1,0,1,0,1]) (by kernel_rfl) ?_
                                  refine at_region (id := 37) 1 (by kernel_rfl) (by kernel_rfl) ?_
                                  refine s_pure 12 (.bool false) (by kernel_rfl) (by kernel_rfl) (fun _ => by kernel_rfl) ?_
                                  refine ops_end ?_
                                  refine At.env [(12, .bool false)] ⟨by kernel_rfl, trivial⟩ ?_
                                  refine at_then_normal ?_
                                  refine at_ret (by kernel_rfl) ?_
                                  refine at_then_ret ?_
                                  obtain rfl := someE H
                                  refine at_backR [.bool false] (Γ) (rs := [.tmp 12]) (by kernel_rfl) (.cons (.tmp (by kernel_rfl)) .nil) (fun w hw => (Sat.less (.drop .here (.drop .here (.drop .here (.drop .here (.drop .here (.drop .here (.drop .here (.drop .here .refl)))))))) hw)) ?_
                                  exact ⟨rfl, rfl⟩
                                · replace H := bifF H h10
                                  refine s_pure 192 (.bool false) (by kernel_rfl) (by kernel_rfl) (run_eq (v := .bool (!y36_36)) (fun _ => by kernel_rfl) (congrArg Value.bool h10)) ?_
                                  refine s_pure 193 (.pointer (some ⟨b15_2, 7, none⟩)) (by kernel_rfl) (by kernel_rfl) (fun _ => by kernel_rfl) ?_
                                  refine s_load 194 (.bool e6_b15_2_7) (by kernel_rfl) (by kernel_rfl) (load1 (off := 7) (fun _ => by kernel_rfl) (holds_own (.there (.there (.there (.there .here))))) (by kernel_rfl)) ?_
                                  refine s_pure 195 (.bool !e6_b15_2_7) (by kernel_rfl) (by kernel_rfl) (fun _ => by kernel_rfl) ?_
                                  rcases Bool.eq_false_or_eq_true (!e6_b15_2_7) with h11 | h11
                                  · replace H := bifT H h11
                                    refine s_pure 196 (.bool true) (by kernel_rfl) (by kernel_rfl) (run_eq (v := .bool (!e6_b15_2_7)) (fun _ => by kernel_rfl) (congrArg Value.bool h11)) ?_
                                    refine s_pure 197 (.pointer (some ⟨b15_2, 8, none⟩)) (by kernel_rfl) (by kernel_rfl) (fun _ => by kernel_rfl) ?_
                                    refine s_load 198 (.slice e6_b15_2_8a (List.length e6_b15_2_8x) e6_b15_2_8c) (by kernel_rfl) (by kernel_rfl) (load1 (off := 8) (fun _ => by kernel_rfl) (holds_own (.there (.there (.there (.there .here))))) (by kernel_rfl)) ?_
                                    refine s_pure 199 (.int .i64 (((List.length e6_b15_2_8x) : Nat) : Int)) (by kernel_rfl) (by kernel_rfl) (fun _ => by kernel_rfl) ?_
                                    refine s_pure 200 (.bool (!(decide ((((List.length e6_b15_2_8x) : Nat) : Int) = (0 : Int))))) (by kernel_rfl) (by kernel_rfl) (fun _ => by kernel_rfl) ?_
                                    refine s_pure 201 (.bool (!(decide ((((List.length e6_b15_2_8x) : Nat) : Int) = (0 : Int))))) (by kernel_rfl) (by kernel_rfl) (fun _ => by kernel_rfl) ?_
                                    refine s_pure 202 (.bool (!(decide ((((List.length e6_b15_2_8x) : Nat) : Int) = (0 : Int))))) (by kernel_rfl) (by kernel_rfl) (fun _ => by kernel_rfl) ?_
                                    rcases Bool.eq_false_or_eq_true (!(decide ((((List.length e6_b15_2_8x) : Nat) : Int) = (0 : Int)))) with h12 | h12
                                    · replace H := bifT H h12
                                      refine s_pure 203 (.bool true) (by kernel_rfl) (by kernel_rfl) (run_eq (v := .bool (!(decide ((((List.length e6_b15_2_8x) : Nat) : Int) = (0 : Int))))) (fun _ => by kernel_rfl) (congrArg Value.bool h12)) ?_
                                      refine s_pass 204 (by kernel_rfl) (by kernel_rfl) ?_
                                      refine s_pass 205 (by kernel_rfl) (by kernel_rfl) ?_
                                      refine s_pass 206 (by kernel_rfl) (by kernel_rfl) ?_
                                      refine s_pure 207 (.bool true) (by kernel_rfl) (by kernel_rfl) (fun _ => by kernel_rfl) ?_
                                      refine ops_end ?_
                                      refine At.env [(14, .pointer (some ⟨b6_0_0, 0, none⟩)), (17, .pointer (some ⟨b14_12, 0, none⟩)), (20, .pointer (some ⟨b16_1, 0, none⟩)), (207, .bool true)] ⟨by kernel_rfl, by kernel_rfl, by kernel_rfl, by kernel_rfl, trivial⟩ ?_
                                      refine at_then_normal ?_
                                      refine at_true (t := true) (x := C8 [1,1,1,1,1,1,1,1,1,1,1,1,1,1,1,0,1,0]) (y := C8 [1,1,1,1,1,1,1,1,1,1,1,1,1,1,1,0,1,1]) (o := .tmp 207) (by kernel_rfl) (by kernel_rfl) (by kernel_rfl) rfl ?_
                                      refine at_seq (x := C8 [1,1,1,1,1,1,1,1,1,1,1,1,1,1,1,0,1,0,0]) (y := C8 [1,1,1,1,1,1,1,1,1,1,1,1,1,1,1,0,1,0,1]) (by kernel_rfl) ?_
                                      refine at_region (id := 37) 1 (by kernel_rfl) (by kernel_rfl) ?_
                                      refine s_pure 12 (.bool false) (by kernel_rfl) (by kernel_rfl) (fun _ => by kernel_rfl) ?_
                                      refine ops_end ?_
                                      refine At.env [(12, .bool false)] ⟨by kernel_rfl, trivial⟩ ?_
                                      refine at_then_normal ?_
                                      refine at_ret (by kernel_rfl) ?_
                                      refine at_then_ret ?_
                                      obtain rfl := someE H
                                      refine at_backR [.bool false] (Γ) (rs := [.tmp 12]) (by kernel_rfl) (.cons (.tmp (by kernel_rfl)) .nil) (fun w hw => (Sat.less (.drop .here (.drop .here (.drop .here (.drop .here (.drop .here (.drop .here (.drop .here (.drop .here .refl)))))))) hw)) ?_
                                      exact ⟨rfl, rfl⟩
                                    · replace H := bifF H h12
                                      refine s_pure 203 (.bool false) (by kernel_rfl) (by kernel_rfl) (run_eq (v := .bool (!(decide ((((List.length e6_b15_2_8x) : Nat) : Int) = (0 : Int))))) (fun _ => by kernel_rfl) (congrArg Value.bool h12)) ?_
                                      refine s_pure 204 (.pointer (some ⟨b6_0_0, 0, none⟩)) (by kernel_rfl) (by kernel_rfl) (fun _ => by kernel_rfl) ?_
                                      obtain ⟨y36_53, hy36_53, H⟩ := letE H
                                      refine s_call 205 23 #[.pointer (some ⟨b6_0_0, 0, none⟩)] (by kernel_rfl) (by kernel_rfl) (fun _ => by kernel_rfl) (Tr.conv (Γ' := (CacheA b6_0_0 e6_b6_0_0) :: (IntsA (some ⟨b36_35, 0, none⟩) 1 l36_35) :: (IntsA e6_b15_2_8a e6_b15_2_8c e6_b15_2_8x) :: (ImmI e6_b14_12_6a e6_b14_12_6x) :: (Asn.own b16_1 (.cells #[.int .i64 (8), .int .i64 (0), .int .i64 (0), .int .i64 (5), .int .i64 (1), .int .i64 (0), .int .i64 (0), .bool false, .slice none 0 0] 40 (0, 0))) :: (Asn.own b15_2 (.cells #[.int .i64 e6_b15_2_0, .int .i64 e6_b15_2_1, .int .i64 e6_b15_2_2, .int .i64 e6_b15_2_3, .int .i64 e6_b15_2_4, .int .i64 e6_b15_2_5, .int .i64 e6_b15_2_6, .bool e6_b15_2_7, .slice e6_b15_2_8a (List.length e6_b15_2_8x) e6_b15_2_8c] 40 (0, 0))) :: (Asn.own b14_12 (.cells #[.int .i64 e6_b14_12_0, .int .i64 e6_b14_12_1, .int .i64 e6_b14_12_2, .int .i64 e6_b14_12_3, .int .i64 e6_b14_12_4, .int .i64 e6_b14_12_5, .slice e6_b14_12_6a (List.length e6_b14_12_6x) e6_b14_12_6c, .int .i64 e6_b14_12_7, .int .i64 e6_b14_12_8] 35 (0, 0))) :: (RCacheA b6_0_1 y6_0.2) :: Γ) (fun w hw => (Sat.less (.take (.there (.there (.there (.there (.there (.there .here)))))) (.take .here (.take .here (.take .here (.take .here (.take .here (.take .here (.take .here .refl)))))))) hw)) (LenF_tr b6_0_0 e6_b6_0_0 y36_53 hy36_53)) ?_
                                      rintro _ _ ⟨rfl, rfl⟩
                                      refine s_pure 206 (.bool (!(decide (y36_53 = (0 : Int))))) (by kernel_rfl) (by kernel_rfl) (fun _ => by kernel_rfl) ?_
                                      refine s_pure 207 (.bool (!(decide (y36_53 = (0 : Int))))) (by kernel_rfl) (by kernel_rfl) (fun _ => by kernel_rfl) ?_
                                      refine ops_end ?_
                                      refine At.env [(14, .pointer (some ⟨b6_0_0, 0, none⟩)), (17, .pointer (some ⟨b14_12, 0, none⟩)), (20, .pointer (some ⟨b16_1, 0, none⟩)), (207, .bool (!(decide (y36_53 = (0 : Int)))))] ⟨by kernel_rfl, by kernel_rfl, by kernel_rfl, by kernel_rfl, trivial⟩ ?_
                                      refine at_then_normal ?_
                                      rcases Bool.eq_false_or_eq_true (!(decide (y36_53 = (0 : Int)))) with h13 | h13
                                      · replace H := bifT H h13
                                        refine at_true (t := !(decide (y36_53 = (0 : Int)))) (x := C8 [1,1,1,1,1,1,1,1,1,1,1,1,1,1,1,0,1,0]) (y := C8 [1,1,1,1,1,1,1,1,1,1,1,1,1,1,1,0,1,1]) (o := .tmp 207) (by kernel_rfl) (by kernel_rfl) (by kernel_rfl) h13 ?_
                                        refine at_seq (x := C8 [1,1,1,1,1,1,1,1,1,1,1,1,1,1,1,0,1,0,0]) (y := C8 [1,1,1,1,1,1,1,1,1,1,1,1,1,1,1,0,1,0,1]) (by kernel_rfl) ?_
                                        refine at_region (id := 37) 1 (by kernel_rfl) (by kernel_rfl) ?_
                                        refine s_pure 12 (.bool false) (by kernel_rfl) (by kernel_rfl) (fun _ => by kernel_rfl) ?_
                                        refine ops_end ?_
                                        refine At.env [(12, .bool false)] ⟨by kernel_rfl, trivial⟩ ?_
                                        refine at_then_normal ?_
                                        refine at_ret (by kernel_rfl) ?_
                                        refine at_then_ret ?_
                                        obtain rfl := someE H
                                        refine at_backR [.bool false] (Γ) (rs := [.tmp 12]) (by kernel_rfl) (.cons (.tmp (by kernel_rfl)) .nil) (fun w hw => (Sat.less (.drop .here (.drop .here (.drop .here (.drop .here (.drop .here (.drop .here (.drop .here (.drop .here .refl)))))))) hw)) ?_
                                        exact ⟨rfl, rfl⟩
                                      · replace H := bifF H h13
                                        refine at_false (t := !(decide (y36_53 = (0 : Int)))) (x := C8 [1,1,1,1,1,1,1,1,1,1,1,1,1,1,1,0,1,0]) (y := C8 [1,1,1,1,1,1,1,1,1,1,1,1,1,1,1,0,1,1]) (o := .tmp 207) (by kernel_rfl) (by kernel_rfl) (by kernel_rfl) h13 ?_
                                        refine at_skip (by kernel_rfl) ?_
                                        refine at_round_normal ?_
                                        exact at_join_mk [(14, .pointer (some ⟨b6_0_0, 0, none⟩)), (17, .pointer (some ⟨b14_12, 0, none⟩)), (20, .pointer (some ⟨b16_1, 0, none⟩))] ((ImmI e6_b14_12_6a e6_b14_12_6x) :: (Asn.own b16_1 (.cells #[.int .i64 (8), .int .i64 (0), .int .i64 (0), .int .i64 (5), .int .i64 (1), .int .i64 (0), .int .i64 (0), .bool false, .slice none 0 0] 40 (0, 0))) :: (Asn.own b14_12 (.cells #[.int .i64 e6_b14_12_0, .int .i64 e6_b14_12_1, .int .i64 e6_b14_12_2, .int .i64 e6_b14_12_3, .int .i64 e6_b14_12_4, .int .i64 e6_b14_12_5, .slice e6_b14_12_6a (List.length e6_b14_12_6x) e6_b14_12_6c, .int .i64 e6_b14_12_7, .int .i64 e6_b14_12_8] 35 (0, 0))) :: (CacheA b6_0_0 e6_b6_0_0) :: (RCacheA b6_0_1 y6_0.2) :: Γ) ⟨by kernel_rfl, by kernel_rfl, by kernel_rfl, trivial⟩ (fun w hw => (Sat.less (.take (.there (.there (.there .here))) (.take (.there (.there (.there .here))) (.take (.there (.there (.there (.there .here)))) (.take .here (.take (.there (.there (.there .here))) (.drop .here (.drop .here (.drop .here .refl)))))))) hw)) ⟨H, rfl, rfl⟩
                                  · replace H := bifF H h11
                                    refine s_pure 196 (.bool false) (by kernel_rfl) (by kernel_rfl) (run_eq (v := .bool (!e6_b15_2_7)) (fun _ => by kernel_rfl) (congrArg Value.bool h11)) ?_
                                    refine s_pass 197 (by kernel_rfl) (by kernel_rfl) ?_
                                    refine s_pass 198 (by kernel_rfl) (by kernel_rfl) ?_
                                    refine s_pass 199 (by kernel_rfl) (by kernel_rfl) ?_
                                    refine s_pass 200 (by kernel_rfl) (by kernel_rfl) ?_
                                    refine s_pure 201 (.bool false) (by kernel_rfl) (by kernel_rfl) (fun _ => by kernel_rfl) ?_
                                    refine s_pure 202 (.bool false) (by kernel_rfl) (by kernel_rfl) (fun _ => by kernel_rfl) ?_
                                    refine s_pure 203 (.bool false) (by kernel_rfl) (by kernel_rfl) (fun _ => by kernel_rfl) ?_
                                    refine s_pure 204 (.pointer (some ⟨b6_0_0, 0, none⟩)) (by kernel_rfl) (by kernel_rfl) (fun _ => by kernel_rfl) ?_
                                    obtain ⟨y36_53, hy36_53, H⟩ := letE H
                                    refine s_call 205 23 #[.pointer (some ⟨b6_0_0, 0, none⟩)] (by kernel_rfl) (by kernel_rfl) (fun _ => by kernel_rfl) (Tr.conv (Γ' := (CacheA b6_0_0 e6_b6_0_0) :: (IntsA (some ⟨b36_35, 0, none⟩) 1 l36_35) :: (IntsA e6_b15_2_8a e6_b15_2_8c e6_b15_2_8x) :: (ImmI e6_b14_12_6a e6_b14_12_6x) :: (Asn.own b16_1 (.cells #[.int .i64 (8), .int .i64 (0), .int .i64 (0), .int .i64 (5), .int .i64 (1), .int .i64 (0), .int .i64 (0), .bool false, .slice none 0 0] 40 (0, 0))) :: (Asn.own b15_2 (.cells #[.int .i64 e6_b15_2_0, .int .i64 e6_b15_2_1, .int .i64 e6_b15_2_2, .int .i64 e6_b15_2_3, .int .i64 e6_b15_2_4, .int .i64 e6_b15_2_5, .int .i64 e6_b15_2_6, .bool e6_b15_2_7, .slice e6_b15_2_8a (List.length e6_b15_2_8x) e6_b15_2_8c] 40 (0, 0))) :: (Asn.own b14_12 (.cells #[.int .i64 e6_b14_12_0, .int .i64 e6_b14_12_1, .int .i64 e6_b14_12_2, .int .i64 e6_b14_12_3, .int .i64 e6_b14_12_4, .int .i64 e6_b14_12_5, .slice e6_b14_12_6a (List.length e6_b14_12_6x) e6_b14_12_6c, .int .i64 e6_b14_12_7, .int .i64 e6_b14_12_8] 35 (0, 0))) :: (RCacheA b6_0_1 y6_0.2) :: Γ) (fun w hw => (Sat.less (.take (.there (.there (.there (.there (.there (.there .here)))))) (.take .here (.take .here (.take .here (.take .here (.take .here (.take .here (.take .here .refl)))))))) hw)) (LenF_tr b6_0_0 e6_b6_0_0 y36_53 hy36_53)) ?_
                                    rintro _ _ ⟨rfl, rfl⟩
                                    refine s_pure 206 (.bool (!(decide (y36_53 = (0 : Int))))) (by kernel_rfl) (by kernel_rfl) (fun _ => by kernel_rfl) ?_
                                    refine s_pure 207 (.bool (!(decide (y36_53 = (0 : Int))))) (by kernel_rfl) (by kernel_rfl) (fun _ => by kernel_rfl) ?_
                                    refine ops_end ?_
                                    refine At.env [(14, .pointer (some ⟨b6_0_0, 0, none⟩)), (17, .pointer (some ⟨b14_12, 0, none⟩)), (20, .pointer (some ⟨b16_1, 0, none⟩)), (207, .bool (!(decide (y36_53 = (0 : Int)))))] ⟨by kernel_rfl, by kernel_rfl, by kernel_rfl, by kernel_rfl, trivial⟩ ?_
                                    refine at_then_normal ?_
                                    rcases Bool.eq_false_or_eq_true (!(decide (y36_53 = (0 : Int)))) with h14 | h14
                                    · replace H := bifT H h14
                                      refine at_true (t := !(decide (y36_53 = (0 : Int)))) (x := C8 [1,1,1,1,1,1,1,1,1,1,1,1,1,1,1,0,1,0]) (y := C8 [1,1,1,1,1,1,1,1,1,1,1,1,1,1,1,0,1,1]) (o := .tmp 207) (by kernel_rfl) (by kernel_rfl) (by kernel_rfl) h14 ?_
                                      refine at_seq (x := C8 [1,1,1,1,1,1,1,1,1,1,1,1,1,1,1,0,1,0,0]) (y := C8 [1,1,1,1,1,1,1,1,1,1,1,1,1,1,1,0,1,0,1]) (by kernel_rfl) ?_
                                      refine at_region (id := 37) 1 (by kernel_rfl) (by kernel_rfl) ?_
                                      refine s_pure 12 (.bool false) (by kernel_rfl) (by kernel_rfl) (fun _ => by kernel_rfl) ?_
                                      refine ops_end ?_
                                      refine At.env [(12, .bool false)] ⟨by kernel_rfl, trivial⟩ ?_
                                      refine at_then_normal ?_
                                      refine at_ret (by kernel_rfl) ?_
                                      refine at_then_ret ?_
                                      obtain rfl := someE H
                                      refine at_backR [.bool false] (Γ) (rs := [.tmp 12]) (by kernel_rfl) (.cons (.tmp (by kernel_rfl)) .nil) (fun w hw => (Sat.less (.drop .here (.drop .here (.drop .here (.drop .here (.drop .here (.drop .here (.drop .here (.drop .here .refl)))))))) hw)) ?_
                                      exact ⟨rfl, rfl⟩
                                    · replace H := bifF H h14
                                      refine at_false (t := !(decide (y36_53 = (0 : Int)))) (x := C8 [1,1,1,1,1,1,1,1,1,1,1,1,1,1,1,0,1,0]) (y := C8 [1,1,1,1,1,1,1,1,1,1,1,1,1,1,1,0,1,1]) (o := .tmp 207) (by kernel_rfl) (by kernel_rfl) (by kernel_rfl) h14 ?_
                                      refine at_skip (by kernel_rfl) ?_
                                      refine at_round_normal ?_
                                      exact at_join_mk [(14, .pointer (some ⟨b6_0_0, 0, none⟩)), (17, .pointer (some ⟨b14_12, 0, none⟩)), (20, .pointer (some ⟨b16_1, 0, none⟩))] ((ImmI e6_b14_12_6a e6_b14_12_6x) :: (Asn.own b16_1 (.cells #[.int .i64 (8), .int .i64 (0), .int .i64 (0), .int .i64 (5), .int .i64 (1), .int .i64 (0), .int .i64 (0), .bool false, .slice none 0 0] 40 (0, 0))) :: (Asn.own b14_12 (.cells #[.int .i64 e6_b14_12_0, .int .i64 e6_b14_12_1, .int .i64 e6_b14_12_2, .int .i64 e6_b14_12_3, .int .i64 e6_b14_12_4, .int .i64 e6_b14_12_5, .slice e6_b14_12_6a (List.length e6_b14_12_6x) e6_b14_12_6c, .int .i64 e6_b14_12_7, .int .i64 e6_b14_12_8] 35 (0, 0))) :: (CacheA b6_0_0 e6_b6_0_0) :: (RCacheA b6_0_1 y6_0.2) :: Γ) ⟨by kernel_rfl, by kernel_rfl, by kernel_rfl, trivial⟩ (fun w hw => (Sat.less (.take (.there (.there (.there .here))) (.take (.there (.there (.there .here))) (.take (.there (.there (.there (.there .here)))) (.take .here (.take (.there (.there (.there .here))) (.drop .here (.drop .here (.drop .here .refl)))))))) hw)) ⟨H, rfl, rfl⟩
                              · replace H := bifF H h9
                                refine s_pure 183 (.bool false) (by kernel_rfl) (by kernel_rfl) (run_eq (v := .bool (e6_b15_2_7)) (fun _ => by kernel_rfl) (congrArg Value.bool h9)) ?_
                                refine s_pass 184 (by kernel_rfl) (by kernel_rfl) ?_
                                refine s_pass 185 (by kernel_rfl) (by kernel_rfl) ?_
                                refine s_pass 186 (by kernel_rfl) (by kernel_rfl) ?_
                                refine s_pass 187 (by kernel_rfl) (by kernel_rfl) ?_
                                refine s_pass 188 (by kernel_rfl) (by kernel_rfl) ?_
                                refine s_pass 189 (by kernel_rfl) (by kernel_rfl) ?_
                                refine s_pure 190 (.bool false) (by kernel_rfl) (by kernel_rfl) (fun _ => by kernel_rfl) ?_
                                refine s_pure 191 (.bool false) (by kernel_rfl) (by kernel_rfl) (fun _ => by kernel_rfl) ?_
                                refine s_pure 192 (.bool false) (by kernel_rfl) (by kernel_rfl) (fun _ => by kernel_rfl) ?_
                                refine s_pure 193 (.pointer (some ⟨b15_2, 7, none⟩)) (by kernel_rfl) (by kernel_rfl) (fun _ => by kernel_rfl) ?_
                                refine s_load 194 (.bool e6_b15_2_7) (by kernel_rfl) (by kernel_rfl) (load1 (off := 7) (fun _ => by kernel_rfl) (holds_own (.there (.there (.there .here)))) (by kernel_rfl)) ?_
                                refine s_pure 195 (.bool !e6_b15_2_7) (by kernel_rfl) (by kernel_rfl) (fun _ => by kernel_rfl) ?_
                                rcases Bool.eq_false_or_eq_true (!e6_b15_2_7) with h15 | h15
                                · replace H := bifT H h15
                                  refine s_pure 196 (.bool true) (by kernel_rfl) (by kernel_rfl) (run_eq (v := .bool (!e6_b15_2_7)) (fun _ => by kernel_rfl) (congrArg Value.bool h15)) ?_
                                  refine s_pure 197 (.pointer (some ⟨b15_2, 8, none⟩)) (by kernel_rfl) (by kernel_rfl) (fun _ => by kernel_rfl) ?_
                                  refine s_load 198 (.slice e6_b15_2_8a (List.length e6_b15_2_8x) e6_b15_2_8c) (by kernel_rfl) (by kernel_rfl) (load1 (off := 8) (fun _ => by kernel_rfl) (holds_own (.there (.there (.there .here)))) (by kernel_rfl)) ?_
                                  refine s_pure 199 (.int .i64 (((List.length e6_b15_2_8x) : Nat) : Int)) (by kernel_rfl) (by kernel_rfl) (fun _ => by kernel_rfl) ?_
                                  refine s_pure 200 (.bool (!(decide ((((List.length e6_b15_2_8x) : Nat) : Int) = (0 : Int))))) (by kernel_rfl) (by kernel_rfl) (fun _ => by kernel_rfl) ?_
                                  refine s_pure 201 (.bool (!(decide ((((List.length e6_b15_2_8x) : Nat) : Int) = (0 : Int))))) (by kernel_rfl) (by kernel_rfl) (fun _ => by kernel_rfl) ?_
                                  refine s_pure 202 (.bool (!(decide ((((List.length e6_b15_2_8x) : Nat) : Int) = (0 : Int))))) (by kernel_rfl) (by kernel_rfl) (fun _ => by kernel_rfl) ?_
                                  rcases Bool.eq_false_or_eq_true (!(decide ((((List.length e6_b15_2_8x) : Nat) : Int) = (0 : Int)))) with h16 | h16
                                  · replace H := bifT H h16
                                    refine s_pure 203 (.bool true) (by kernel_rfl) (by kernel_rfl) (run_eq (v := .bool (!(decide ((((List.length e6_b15_2_8x) : Nat) : Int) = (0 : Int))))) (fun _ => by kernel_rfl) (congrArg Value.bool h16)) ?_
                                    refine s_pass 204 (by kernel_rfl) (by kernel_rfl) ?_
                                    refine s_pass 205 (by kernel_rfl) (by kernel_rfl) ?_
                                    refine s_pass 206 (by kernel_rfl) (by kernel_rfl) ?_
                                    refine s_pure 207 (.bool true) (by kernel_rfl) (by kernel_rfl) (fun _ => by kernel_rfl) ?_
                                    refine ops_end ?_
                                    refine At.env [(14, .pointer (some ⟨b6_0_0, 0, none⟩)), (17, .pointer (some ⟨b14_12, 0, none⟩)), (20, .pointer (some ⟨b16_1, 0, none⟩)), (207, .bool true)] ⟨by kernel_rfl, by kernel_rfl, by kernel_rfl, by kernel_rfl, trivial⟩ ?_
                                    refine at_then_normal ?_
                                    refine at_true (t := true) (x := C8 [1,1,1,1,1,1,1,1,1,1,1,1,1,1,1,0,1,0]) (y := C8 [1,1,1,1,1,1,1,1,1,1,1,1,1,1,1,0,1,1]) (o := .tmp 207) (by kernel_rfl) (by kernel_rfl) (by kernel_rfl) rfl ?_
                                    refine at_seq (x := C8 [1,1,1,1,1,1,1,1,1,1,1,1,1,1,1,0,1,0,0]) (y := C8 [1,1,1,1,1,1,1,1,1,1,1,1,1,1,1,0,1,0,1]) (by kernel_rfl) ?_
                                    refine at_region (id := 37) 1 (by kernel_rfl) (by kernel_rfl) ?_
                                    refine s_pure 12 (.bool false) (by kernel_rfl) (by kernel_rfl) (fun _ => by kernel_rfl) ?_
                                    refine ops_end ?_
                                    refine At.env [(12, .bool false)] ⟨by kernel_rfl, trivial⟩ ?_
                                    refine at_then_normal ?_
                                    refine at_ret (by kernel_rfl) ?_
                                    refine at_then_ret ?_
                                    obtain rfl := someE H
                                    refine at_backR [.bool false] (Γ) (rs := [.tmp 12]) (by kernel_rfl) (.cons (.tmp (by kernel_rfl)) .nil) (fun w hw => (Sat.less (.drop .here (.drop .here (.drop .here (.drop .here (.drop .here (.drop .here (.drop .here .refl))))))) hw)) ?_
                                    exact ⟨rfl, rfl⟩
                                  · replace H := bifF H h16
                                    refine s_pure 203 (.bool false) (by kernel_rfl) (by kernel_rfl) (run_eq (v := .bool (!(decide ((((List.length e6_b15_2_8x) : Nat) : Int) = (0 : Int))))) (fun _ => by kernel_rfl) (congrArg Value.bool h16)) ?_
                                    refine s_pure 204 (.pointer (some ⟨b6_0_0, 0, none⟩)) (by kernel_rfl) (by kernel_rfl) (fun _ => by kernel_rfl) ?_
                                    obtain ⟨y36_53, hy36_53, H⟩ := letE H
                                    refine s_call 205 23 #[.pointer (some ⟨b6_0_0, 0, none⟩)] (by kernel_rfl) (by kernel_rfl) (fun _ => by kernel_rfl) (Tr.conv (Γ' := (CacheA b6_0_0 e6_b6_0_0) :: (IntsA e6_b15_2_8a e6_b15_2_8c e6_b15_2_8x) :: (ImmI e6_b14_12_6a e6_b14_12_6x) :: (Asn.own b16_1 (.cells #[.int .i64 (8), .int .i64 (0), .int .i64 (0), .int .i64 (5), .int .i64 (1), .int .i64 (0), .int .i64 (0), .bool false, .slice none 0 0] 40 (0, 0))) :: (Asn.own b15_2 (.cells #[.int .i64 e6_b15_2_0, .int .i64 e6_b15_2_1, .int .i64 e6_b15_2_2, .int .i64 e6_b15_2_3, .int .i64 e6_b15_2_4, .int .i64 e6_b15_2_5, .int .i64 e6_b15_2_6, .bool e6_b15_2_7, .slice e6_b15_2_8a (List.length e6_b15_2_8x) e6_b15_2_8c] 40 (0, 0))) :: (Asn.own b14_12 (.cells #[.int .i64 e6_b14_12_0, .int .i64 e6_b14_12_1, .int .i64 e6_b14_12_2, .int .i64 e6_b14_12_3, .int .i64 e6_b14_12_4, .int .i64 e6_b14_12_5, .slice e6_b14_12_6a (List.length e6_b14_12_6x) e6_b14_12_6c, .int .i64 e6_b14_12_7, .int .i64 e6_b14_12_8] 35 (0, 0))) :: (RCacheA b6_0_1 y6_0.2) :: Γ) (fun w hw => (Sat.less (.take (.there (.there (.there (.there (.there .here))))) (.take .here (.take .here (.take .here (.take .here (.take .here (.take .here .refl))))))) hw)) (LenF_tr b6_0_0 e6_b6_0_0 y36_53 hy36_53)) ?_
                                    rintro _ _ ⟨rfl, rfl⟩
                                    refine s_pure 206 (.bool (!(decide (y36_53 = (0 : Int))))) (by kernel_rfl) (by kernel_rfl) (fun _ => by kernel_rfl) ?_
                                    refine s_pure 207 (.bool (!(decide (y36_53 = (0 : Int))))) (by kernel_rfl) (by kernel_rfl) (fun _ => by kernel_rfl) ?_
                                    refine ops_end ?_
                                    refine At.env [(14, .pointer (some ⟨b6_0_0, 0, none⟩)), (17, .pointer (some ⟨b14_12, 0, none⟩)), (20, .pointer (some ⟨b16_1, 0, none⟩)), (207, .bool (!(decide (y36_53 = (0 : Int)))))] ⟨by kernel_rfl, by kernel_rfl, by kernel_rfl, by kernel_rfl, trivial⟩ ?_
                                    refine at_then_normal ?_
                                    rcases Bool.eq_false_or_eq_true (!(decide (y36_53 = (0 : Int)))) with h17 | h17
                                    · replace H := bifT H h17
                                      refine at_true (t := !(decide (y36_53 = (0 : Int)))) (x := C8 [1,1,1,1,1,1,1,1,1,1,1,1,1,1,1,0,1,0]) (y := C8 [1,1,1,1,1,1,1,1,1,1,1,1,1,1,1,0,1,1]) (o := .tmp 207) (by kernel_rfl) (by kernel_rfl) (by kernel_rfl) h17 ?_
                                      refine at_seq (x := C8 [1,1,1,1,1,1,1,1,1,1,1,1,1,1,1,0,1,0,0]) (y := C8 [1,1,1,1,1,1,1,1,1,1,1,1,1,1,1,0,1,0,1]) (by kernel_rfl) ?_
                                      refine at_region (id := 37) 1 (by kernel_rfl) (by kernel_rfl) ?_
                                      refine s_pure 12 (.bool false) (by kernel_rfl) (by kernel_rfl) (fun _ => by kernel_rfl) ?_
                                      refine ops_end ?_
                                      refine At.env [(12, .bool false)] ⟨by kernel_rfl, trivial⟩ ?_
                                      refine at_then_normal ?_
                                      refine at_ret (by kernel_rfl) ?_
                                      refine at_then_ret ?_
                                      obtain rfl := someE H
                                      refine at_backR [.bool false] (Γ) (rs := [.tmp 12]) (by kernel_rfl) (.cons (.tmp (by kernel_rfl)) .nil) (fun w hw => (Sat.less (.drop .here (.drop .here (.drop .here (.drop .here (.drop .here (.drop .here (.drop .here .refl))))))) hw)) ?_
                                      exact ⟨rfl, rfl⟩
                                    · replace H := bifF H h17
                                      refine at_false (t := !(decide (y36_53 = (0 : Int)))) (x := C8 [1,1,1,1,1,1,1,1,1,1,1,1,1,1,1,0,1,0]) (y := C8 [1,1,1,1,1,1,1,1,1,1,1,1,1,1,1,0,1,1]) (o := .tmp 207) (by kernel_rfl) (by kernel_rfl) (by kernel_rfl) h17 ?_
                                      refine at_skip (by kernel_rfl) ?_
                                      refine at_round_normal ?_
                                      exact at_join_mk [(14, .pointer (some ⟨b6_0_0, 0, none⟩)), (17, .pointer (some ⟨b14_12, 0, none⟩)), (20, .pointer (some ⟨b16_1, 0, none⟩))] ((ImmI e6_b14_12_6a e6_b14_12_6x) :: (Asn.own b16_1 (.cells #[.int .i64 (8), .int .i64 (0), .int .i64 (0), .int .i64 (5), .int .i64 (1), .int .i64 (0), .int .i64 (0), .bool false, .slice none 0 0] 40 (0, 0))) :: (Asn.own b14_12 (.cells #[.int .i64 e6_b14_12_0, .int .i64 e6_b14_12_1, .int .i64 e6_b14_12_2, .int .i64 e6_b14_12_3, .int .i64 e6_b14_12_4, .int .i64 e6_b14_12_5, .slice e6_b14_12_6a (List.length e6_b14_12_6x) e6_b14_12_6c, .int .i64 e6_b14_12_7, .int .i64 e6_b14_12_8] 35 (0, 0))) :: (CacheA b6_0_0 e6_b6_0_0) :: (RCacheA b6_0_1 y6_0.2) :: Γ) ⟨by kernel_rfl, by kernel_rfl, by kernel_rfl, trivial⟩ (fun w hw => (Sat.less (.take (.there (.there .here)) (.take (.there (.there .here)) (.take (.there (.there (.there .here))) (.take .here (.take (.there (.there .here)) (.drop .here (.drop .here .refl))))))) hw)) ⟨H, rfl, rfl⟩
                                · replace H := bifF H h15
                                  refine s_pure 196 (.bool false) (by kernel_rfl) (by kernel_rfl) (run_eq (v := .bool (!e6_b15_2_7)) (fun _ => by kernel_rfl) (congrArg Value.bool h15)) ?_
                                  refine s_pass 197 (by kernel_rfl) (by kernel_rfl) ?_
                                  refine s_pass 198 (by kernel_rfl) (by kernel_rfl) ?_
                                  refine s_pass 199 (by kernel_rfl) (by kernel_rfl) ?_
                                  refine s_pass 200 (by kernel_rfl) (by kernel_rfl) ?_
                                  refine s_pure 201 (.bool false) (by kernel_rfl) (by kernel_rfl) (fun _ => by kernel_rfl) ?_
                                  refine s_pure 202 (.bool false) (by kernel_rfl) (by kernel_rfl) (fun _ => by kernel_rfl) ?_
                                  refine s_pure 203 (.bool false) (by kernel_rfl) (by kernel_rfl) (fun _ => by kernel_rfl) ?_
                                  refine s_pure 204 (.pointer (some ⟨b6_0_0, 0, none⟩)) (by kernel_rfl) (by kernel_rfl) (fun _ => by kernel_rfl) ?_
                                  obtain ⟨y36_53, hy36_53, H⟩ := letE H
                                  refine s_call 205 23 #[.pointer (some ⟨b6_0_0, 0, none⟩)] (by kernel_rfl) (by kernel_rfl) (fun _ => by kernel_rfl) (Tr.conv (Γ' := (CacheA b6_0_0 e6_b6_0_0) :: (IntsA e6_b15_2_8a e6_b15_2_8c e6_b15_2_8x) :: (ImmI e6_b14_12_6a e6_b14_12_6x) :: (Asn.own b16_1 (.cells #[.int .i64 (8), .int .i64 (0), .int .i64 (0), .int .i64 (5), .int .i64 (1), .int .i64 (0), .int .i64 (0), .bool false, .slice none 0 0] 40 (0, 0))) :: (Asn.own b15_2 (.cells #[.int .i64 e6_b15_2_0, .int .i64 e6_b15_2_1, .int .i64 e6_b15_2_2, .int .i64 e6_b15_2_3, .int .i64 e6_b15_2_4, .int .i64 e6_b15_2_5, .int .i64 e6_b15_2_6, .bool e6_b15_2_7, .slice e6_b15_2_8a (List.length e6_b15_2_8x) e6_b15_2_8c] 40 (0, 0))) :: (Asn.own b14_12 (.cells #[.int .i64 e6_b14_12_0, .int .i64 e6_b14_12_1, .int .i64 e6_b14_12_2, .int .i64 e6_b14_12_3, .int .i64 e6_b14_12_4, .int .i64 e6_b14_12_5, .slice e6_b14_12_6a (List.length e6_b14_12_6x) e6_b14_12_6c, .int .i64 e6_b14_12_7, .int .i64 e6_b14_12_8] 35 (0, 0))) :: (RCacheA b6_0_1 y6_0.2) :: Γ) (fun w hw => (Sat.less (.take (.there (.there (.there (.there (.there .here))))) (.take .here (.take .here (.take .here (.take .here (.take .here (.take .here .refl))))))) hw)) (LenF_tr b6_0_0 e6_b6_0_0 y36_53 hy36_53)) ?_
                                  rintro _ _ ⟨rfl, rfl⟩
                                  refine s_pure 206 (.bool (!(decide (y36_53 = (0 : Int))))) (by kernel_rfl) (by kernel_rfl) (fun _ => by kernel_rfl) ?_
                                  refine s_pure 207 (.bool (!(decide (y36_53 = (0 : Int))))) (by kernel_rfl) (by kernel_rfl) (fun _ => by kernel_rfl) ?_
                                  refine ops_end ?_
                                  refine At.env [(14, .pointer (some ⟨b6_0_0, 0, none⟩)), (17, .pointer (some ⟨b14_12, 0, none⟩)), (20, .pointer (some ⟨b16_1, 0, none⟩)), (207, .bool (!(decide (y36_53 = (0 : Int)))))] ⟨by kernel_rfl, by kernel_rfl, by kernel_rfl, by kernel_rfl, trivial⟩ ?_
                                  refine at_then_normal ?_
                                  rcases Bool.eq_false_or_eq_true (!(decide (y36_53 = (0 : Int)))) with h18 | h18
                                  · replace H := bifT H h18
                                    refine at_true (t := !(decide (y36_53 = (0 : Int)))) (x := C8 [1,1,1,1,1,1,1,1,1,1,1,1,1,1,1,0,1,0]) (y := C8 [1,1,1,1,1,1,1,1,1,1,1,1,1,1,1,0,1,1]) (o := .tmp 207) (by kernel_rfl) (by kernel_rfl) (by kernel_rfl) h18 ?_
                                    refine at_seq (x := C8 [1,1,1,1,1,1,1,1,1,1,1,1,1,1,1,0,1,0,0]) (y := C8 [1,1,1,1,1,1,1,1,1,1,1,1,1,1,1,0,1,0,1]) (by kernel_rfl) ?_
                                    refine at_region (id := 37) 1 (by kernel_rfl) (by kernel_rfl) ?_
                                    refine s_pure 12 (.bool false) (by kernel_rfl) (by kernel_rfl) (fun _ => by kernel_rfl) ?_
                                    refine ops_end ?_
                                    refine At.env [(12, .bool false)] ⟨by kernel_rfl, trivial⟩ ?_
                                    refine at_then_normal ?_
                                    refine at_ret (by kernel_rfl) ?_
                                    refine at_then_ret ?_
                                    obtain rfl := someE H
                                    refine at_backR [.bool false] (Γ) (rs := [.tmp 12]) (by kernel_rfl) (.cons (.tmp (by kernel_rfl)) .nil) (fun w hw => (Sat.less (.drop .here (.drop .here (.drop .here (.drop .here (.drop .here (.drop .here (.drop .here .refl))))))) hw)) ?_
                                    exact ⟨rfl, rfl⟩
                                  · replace H := bifF H h18
                                    refine at_false (t := !(decide (y36_53 = (0 : Int)))) (x := C8 [1,1,1,1,1,1,1,1,1,1,1,1,1,1,1,0,1,0]) (y := C8 [1,1,1,1,1,1,1,1,1,1,1,1,1,1,1,0,1,1]) (o := .tmp 207) (by kernel_rfl) (by kernel_rfl) (by kernel_rfl) h18 ?_
                                    refine at_skip (by kernel_rfl) ?_
                                    refine at_round_normal ?_
                                    exact at_join_mk [(14, .pointer (some ⟨b6_0_0, 0, none⟩)), (17, .pointer (some ⟨b14_12, 0, none⟩)), (20, .pointer (some ⟨b16_1, 0, none⟩))] ((ImmI e6_b14_12_6a e6_b14_12_6x) :: (Asn.own b16_1 (.cells #[.int .i64 (8), .int .i64 (0), .int .i64 (0), .int .i64 (5), .int .i64 (1), .int .i64 (0), .int .i64 (0), .bool false, .slice none 0 0] 40 (0, 0))) :: (Asn.own b14_12 (.cells #[.int .i64 e6_b14_12_0, .int .i64 e6_b14_12_1, .int .i64 e6_b14_12_2, .int .i64 e6_b14_12_3, .int .i64 e6_b14_12_4, .int .i64 e6_b14_12_5, .slice e6_b14_12_6a (List.length e6_b14_12_6x) e6_b14_12_6c, .int .i64 e6_b14_12_7, .int .i64 e6_b14_12_8] 35 (0, 0))) :: (CacheA b6_0_0 e6_b6_0_0) :: (RCacheA b6_0_1 y6_0.2) :: Γ) ⟨by kernel_rfl, by kernel_rfl, by kernel_rfl, trivial⟩ (fun w hw => (Sat.less (.take (.there (.there .here)) (.take (.there (.there .here)) (.take (.there (.there (.there .here))) (.take .here (.take (.there (.there .here)) (.drop .here (.drop .here .refl))))))) hw)) ⟨H, rfl, rfl⟩
                          · replace H := bifF H h7
                            refine s_pure 175 (.bool false) (by kernel_rfl) (by kernel_rfl) (run_eq (v := .bool (there)) (fun _ => by kernel_rfl) (congrArg Value.bool h7)) ?_
                            refine s_pass 176 (by kernel_rfl) (by kernel_rfl) ?_
                            refine s_pure 177 (.bool false) (by kernel_rfl) (by kernel_rfl) (fun _ => by kernel_rfl) ?_
                            refine s_pure 178 (.bool (!(e6_b15_2_7 == false))) (by kernel_rfl) (by kernel_rfl) (fun _ => by kernel_rfl) ?_
                            refine s_pure 179 (.bool (!(e6_b15_2_7 == false))) (by kernel_rfl) (by kernel_rfl) (fun _ => by kernel_rfl) ?_
                            rcases Bool.eq_false_or_eq_true (!(e6_b15_2_7 == false)) with h19 | h19
                            · replace H := bifT H h19
                              refine s_pure 180 (.bool true) (by kernel_rfl) (by kernel_rfl) (run_eq (v := .bool (!(e6_b15_2_7 == false))) (fun _ => by kernel_rfl) (congrArg Value.bool h19)) ?_
                              refine s_pass 181 (by kernel_rfl) (by kernel_rfl) ?_
                              refine s_pass 182 (by kernel_rfl) (by kernel_rfl) ?_
                              refine s_pass 183 (by kernel_rfl) (by kernel_rfl) ?_
                              refine s_pass 184 (by kernel_rfl) (by kernel_rfl) ?_
                              refine s_pass 185 (by kernel_rfl) (by kernel_rfl) ?_
                              refine s_pass 186 (by kernel_rfl) (by kernel_rfl) ?_
                              refine s_pass 187 (by kernel_rfl) (by kernel_rfl) ?_
                              refine s_pass 188 (by kernel_rfl) (by kernel_rfl) ?_
                              refine s_pass 189 (by kernel_rfl) (by kernel_rfl) ?_
                              refine s_pass 190 (by kernel_rfl) (by kernel_rfl) ?_
                              refine s_pure 191 (.bool true) (by kernel_rfl) (by kernel_rfl) (fun _ => by kernel_rfl) ?_
                              refine s_pure 192 (.bool true) (by kernel_rfl) (by kernel_rfl) (fun _ => by kernel_rfl) ?_
                              refine s_pass 193 (by kernel_rfl) (by kernel_rfl) ?_
                              refine s_pass 194 (by kernel_rfl) (by kernel_rfl) ?_
                              refine s_pass 195 (by kernel_rfl) (by kernel_rfl) ?_
                              refine s_pass 196 (by kernel_rfl) (by kernel_rfl) ?_
                              refine s_pass 197 (by kernel_rfl) (by kernel_rfl) ?_
                              refine s_pass 198 (by kernel_rfl) (by kernel_rfl) ?_
                              refine s_pass 199 (by kernel_rfl) (by kernel_rfl) ?_
                              refine s_pass 200 (by kernel_rfl) (by kernel_rfl) ?_
                              refine s_pass 201 (by kernel_rfl) (by kernel_rfl) ?_
                              refine s_pure 202 (.bool true) (by kernel_rfl) (by kernel_rfl) (fun _ => by kernel_rfl) ?_
                              refine s_pure 203 (.bool true) (by kernel_rfl) (by kernel_rfl) (fun _ => by kernel_rfl) ?_
                              refine s_pass 204 (by kernel_rfl) (by kernel_rfl) ?_
                              refine s_pass 205 (by kernel_rfl) (by kernel_rfl) ?_
                              refine s_pass 206 (by kernel_rfl) (by kernel_rfl) ?_
                              refine s_pure 207 (.bool true) (by kernel_rfl) (by kernel_rfl) (fun _ => by kernel_rfl) ?_
                              refine ops_end ?_
                              refine At.env [(14, .pointer (some ⟨b6_0_0, 0, none⟩)), (17, .pointer (some ⟨b14_12, 0, none⟩)), (20, .pointer (some ⟨b16_1, 0, none⟩)), (207, .bool true)] ⟨by kernel_rfl, by kernel_rfl, by kernel_rfl, by kernel_rfl, trivial⟩ ?_
                              refine at_then_normal ?_
                              refine at_true (t := true) (x := C8 [1,1,1,1,1,1,1,1,1,1,1,1,1,1,1,0,1,0]) (y := C8 [1,1,1,1,1,1,1,1,1,1,1,1,1,1,1,0,1,1]) (o := .tmp 207) (by kernel_rfl) (by kernel_rfl) (by kernel_rfl) rfl ?_
                              refine at_seq (x := C8 [1,1,1,1,1,1,1,1,1,1,1,1,1,1,1,0,1,0,0]) (y := C8 [1,1,1,1,1,1,1,1,1,1,1,1,1,1,1,0,1,0,1]) (by kernel_rfl) ?_
                              refine at_region (id := 37) 1 (by kernel_rfl) (by kernel_rfl) ?_
                              refine s_pure 12 (.bool false) (by kernel_rfl) (by kernel_rfl) (fun _ => by kernel_rfl) ?_
                              refine ops_end ?_
                              refine At.env [(12, .bool false)] ⟨by kernel_rfl, trivial⟩ ?_
                              refine at_then_normal ?_
                              refine at_ret (by kernel_rfl) ?_
                              refine at_then_ret ?_
                              obtain rfl := someE H
                              refine at_backR [.bool false] (Γ) (rs := [.tmp 12]) (by kernel_rfl) (.cons (.tmp (by kernel_rfl)) .nil) (fun w hw => (Sat.less (.drop .here (.drop .here (.drop .here (.drop .here (.drop .here (.drop .here (.drop .here .refl))))))) hw)) ?_
                              exact ⟨rfl, rfl⟩
                            · replace H := bifF H h19
                              refine s_pure 180 (.bool false) (by kernel_rfl) (by kernel_rfl) (run_eq (v := .bool (!(e6_b15_2_7 == false))) (fun _ => by kernel_rfl) (congrArg Value.bool h19)) ?_
                              refine s_pure 181 (.pointer (some ⟨b15_2, 7, none⟩)) (by kernel_rfl) (by kernel_rfl) (fun _ => by kernel_rfl) ?_
                              refine s_load 182 (.bool e6_b15_2_7) (by kernel_rfl) (by kernel_rfl) (load1 (off := 7) (fun _ => by kernel_rfl) (holds_own (.there (.there (.there .here)))) (by kernel_rfl)) ?_
                              rcases Bool.eq_false_or_eq_true (e6_b15_2_7) with h20 | h20
                              · replace H := bifT H h20
                                refine s_pure 183 (.bool true) (by kernel_rfl) (by kernel_rfl) (run_eq (v := .bool (e6_b15_2_7)) (fun _ => by kernel_rfl) (congrArg Value.bool h20)) ?_
                                refine s_pure 184 (.pointer (some ⟨b15_2, 8, none⟩)) (by kernel_rfl) (by kernel_rfl) (fun _ => by kernel_rfl) ?_
                                refine s_load 185 (.slice e6_b15_2_8a (List.length e6_b15_2_8x) e6_b15_2_8c) (by kernel_rfl) (by kernel_rfl) (load1 (off := 8) (fun _ => by kernel_rfl) (holds_own (.there (.there (.there .here)))) (by kernel_rfl)) ?_
                                refine s_pure 186 (.int .i64 data) (by kernel_rfl) (by kernel_rfl) (fun _ => by kernel_rfl) ?_
                                obtain ⟨l36_35, hl36_35, H⟩ := letE H
                                refine s_step 187 (by kernel_rfl) (by kernel_rfl) (st_new_ints (T := 3) (xs := l36_35) 1 hl36_35 (fun _ => by kernel_rfl) (by kernel_rfl)) ?_
                                rintro _ _ ⟨b36_35, rfl, rfl⟩
                                obtain ⟨y36_36, hy36_36, H⟩ := bindE H
                                refine s_call 188 27 #[.slice e6_b15_2_8a (List.length e6_b15_2_8x) e6_b15_2_8c, .slice (some ⟨b36_35, 0, none⟩) (List.length l36_35) 1] (by kernel_rfl) (by kernel_rfl) (fun _ => by kernel_rfl) (KSameF_tr e6_b15_2_8a e6_b15_2_8c e6_b15_2_8x (some ⟨b36_35, 0, none⟩) 1 l36_35 (RowsA.reads (k := 1) (.there .here)) (RowsA.reads (k := 1) .here) y36_36 hy36_36) ?_
                                rintro _ _ ⟨rfl, rfl⟩
                                refine s_pure 189 (.bool !y36_36) (by kernel_rfl) (by kernel_rfl) (fun _ => by kernel_rfl) ?_
                                refine s_pure 190 (.bool !y36_36) (by kernel_rfl) (by kernel_rfl) (fun _ => by kernel_rfl) ?_
                                refine s_pure 191 (.bool !y36_36) (by kernel_rfl) (by kernel_rfl) (fun _ => by kernel_rfl) ?_
                                rcases Bool.eq_false_or_eq_true (!y36_36) with h21 | h21
                                · replace H := bifT H h21
                                  refine s_pure 192 (.bool true) (by kernel_rfl) (by kernel_rfl) (run_eq (v := .bool (!y36_36)) (fun _ => by kernel_rfl) (congrArg Value.bool h21)) ?_
                                  refine s_pass 193 (by kernel_rfl) (by kernel_rfl) ?_
                                  refine s_pass 194 (by kernel_rfl) (by kernel_rfl) ?_
                                  refine s_pass 195 (by kernel_rfl) (by kernel_rfl) ?_
                                  refine s_pass 196 (by kernel_rfl) (by kernel_rfl) ?_
                                  refine s_pass 197 (by kernel_rfl) (by kernel_rfl) ?_
                                  refine s_pass 198 (by kernel_rfl) (by kernel_rfl) ?_
                                  refine s_pass 199 (by kernel_rfl) (by kernel_rfl) ?_
                                  refine s_pass 200 (by kernel_rfl) (by kernel_rfl) ?_
                                  refine s_pass 201 (by kernel_rfl) (by kernel_rfl) ?_
                                  refine s_pure 202 (.bool true) (by kernel_rfl) (by kernel_rfl) (fun _ => by kernel_rfl) ?_
                                  refine s_pure 203 (.bool true) (by kernel_rfl) (by kernel_rfl) (fun _ => by kernel_rfl) ?_
                                  refine s_pass 204 (by kernel_rfl) (by kernel_rfl) ?_
                                  refine s_pass 205 (by kernel_rfl) (by kernel_rfl) ?_
                                  refine s_pass 206 (by kernel_rfl) (by kernel_rfl) ?_
                                  refine s_pure 207 (.bool true) (by kernel_rfl) (by kernel_rfl) (fun _ => by kernel_rfl) ?_
                                  refine ops_end ?_
                                  refine At.env [(14, .pointer (some ⟨b6_0_0, 0, none⟩)), (17, .pointer (some ⟨b14_12, 0, none⟩)), (20, .pointer (some ⟨b16_1, 0, none⟩)), (207, .bool true)] ⟨by kernel_rfl, by kernel_rfl, by kernel_rfl, by kernel_rfl, trivial⟩ ?_
                                  refine at_then_normal ?_
                                  refine at_true (t := true) (x := C8 [1,1,1,1,1,1,1,1,1,1,1,1,1,1,1,0,1,0]) (y := C8 [1,1,1,1,1,1,1,1,1,1,1,1,1,1,1,0,1,1]) (o := .tmp 207) (by kernel_rfl) (by kernel_rfl) (by kernel_rfl) rfl ?_
                                  refine at_seq (x := C8 [1,1,1,1,1,1,1,1,1,1,1,1,1,1,1,0,1,0,0]) (y := C8 [1,1,1,1,1,1,1,1,1,1,1,1,1,1,1,0,1,0,1]) (by kernel_rfl) ?_
                                  refine at_region (id := 37) 1 (by kernel_rfl) (by kernel_rfl) ?_
                                  refine s_pure 12 (.bool false) (by kernel_rfl) (by kernel_rfl) (fun _ => by kernel_rfl) ?_
                                  refine ops_end ?_
                                  refine At.env [(12, .bool false)] ⟨by kernel_rfl, trivial⟩ ?_
                                  refine at_then_normal ?_
                                  refine at_ret (by kernel_rfl) ?_
                                  refine at_then_ret ?_
                                  obtain rfl := someE H
                                  refine at_backR [.bool false] (Γ) (rs := [.tmp 12]) (by kernel_rfl) (.cons (.tmp (by kernel_rfl)) .nil) (fun w hw => (Sat.less (.drop .here (.drop .here (.drop .here (.drop .here (.drop .here (.drop .here (.drop .here (.drop .here .refl)))))))) hw)) ?_
                                  exact ⟨rfl, rfl⟩
                                · replace H := bifF H h21
                                  refine s_pure 192 (.bool false) (by kernel_rfl) (by kernel_rfl) (run_eq (v := .bool (!y36_36)) (fun _ => by kernel_rfl) (congrArg Value.bool h21)) ?_
                                  refine s_pure 193 (.pointer (some ⟨b15_2, 7, none⟩)) (by kernel_rfl) (by kernel_rfl) (fun _ => by kernel_rfl) ?_
                                  refine s_load 194 (.bool e6_b15_2_7) (by kernel_rfl) (by kernel_rfl) (load1 (off := 7) (fun _ => by kernel_rfl) (holds_own (.there (.there (.there (.there .here))))) (by kernel_rfl)) ?_
                                  refine s_pure 195 (.bool !e6_b15_2_7) (by kernel_rfl) (by kernel_rfl) (fun _ => by kernel_rfl) ?_
                                  rcases Bool.eq_false_or_eq_true (!e6_b15_2_7) with h22 | h22
                                  · replace H := bifT H h22
                                    refine s_pure 196 (.bool true) (by kernel_rfl) (by kernel_rfl) (run_eq (v := .bool (!e6_b15_2_7)) (fun _ => by kernel_rfl) (congrArg Value.bool h22)) ?_
                                    refine s_pure 197 (.pointer (some ⟨b15_2, 8, none⟩)) (by kernel_rfl) (by kernel_rfl) (fun _ => by kernel_rfl) ?_
                                    refine s_load 198 (.slice e6_b15_2_8a (List.length e6_b15_2_8x) e6_b15_2_8c) (by kernel_rfl) (by kernel_rfl) (load1 (off := 8) (fun _ => by kernel_rfl) (holds_own (.there (.there (.there (.there .here))))) (by kernel_rfl)) ?_
                                    refine s_pure 199 (.int .i64 (((List.length e6_b15_2_8x) : Nat) : Int)) (by kernel_rfl) (by kernel_rfl) (fun _ => by kernel_rfl) ?_
                                    refine s_pure 200 (.bool (!(decide ((((List.length e6_b15_2_8x) : Nat) : Int) = (0 : Int))))) (by kernel_rfl) (by kernel_rfl) (fun _ => by kernel_rfl) ?_
                                    refine s_pure 201 (.bool (!(decide ((((List.length e6_b15_2_8x) : Nat) : Int) = (0 : Int))))) (by kernel_rfl) (by kernel_rfl) (fun _ => by kernel_rfl) ?_
                                    refine s_pure 202 (.bool (!(decide ((((List.length e6_b15_2_8x) : Nat) : Int) = (0 : Int))))) (by kernel_rfl) (by kernel_rfl) (fun _ => by kernel_rfl) ?_
                                    rcases Bool.eq_false_or_eq_true (!(decide ((((List.length e6_b15_2_8x) : Nat) : Int) = (0 : Int)))) with h23 | h23
                                    · replace H := bifT H h23
                                      refine s_pure 203 (.bool true) (by kernel_rfl) (by kernel_rfl) (run_eq (v := .bool (!(decide ((((List.length e6_b15_2_8x) : Nat) : Int) = (0 : Int))))) (fun _ => by kernel_rfl) (congrArg Value.bool h23)) ?_
                                      refine s_pass 204 (by kernel_rfl) (by kernel_rfl) ?_
                                      refine s_pass 205 (by kernel_rfl) (by kernel_rfl) ?_
                                      refine s_pass 206 (by kernel_rfl) (by kernel_rfl) ?_
                                      refine s_pure 207 (.bool true) (by kernel_rfl) (by kernel_rfl) (fun _ => by kernel_rfl) ?_
                                      refine ops_end ?_
                                      refine At.env [(14, .pointer (some ⟨b6_0_0, 0, none⟩)), (17, .pointer (some ⟨b14_12, 0, none⟩)), (20, .pointer (some ⟨b16_1, 0, none⟩)), (207, .bool true)] ⟨by kernel_rfl, by kernel_rfl, by kernel_rfl, by kernel_rfl, trivial⟩ ?_
                                      refine at_then_normal ?_
                                      refine at_true (t := true) (x := C8 [1,1,1,1,1,1,1,1,1,1,1,1,1,1,1,0,1,0]) (y := C8 [1,1,1,1,1,1,1,1,1,1,1,1,1,1,1,0,1,1]) (o := .tmp 207) (by kernel_rfl) (by kernel_rfl) (by kernel_rfl) rfl ?_
                                      refine at_seq (x := C8 [1,1,1,1,1,1,1,1,1,1,1,1,1,1,1,0,1,0,0]) (y := C8 [1,1,1,1,1,1,1,1,1,1,1,1,1,1,1,0,1,0,1]) (by kernel_rfl) ?_
                                      refine at_region (id := 37) 1 (by kernel_rfl) (by kernel_rfl) ?_
                                      refine s_pure 12 (.bool false) (by kernel_rfl) (by kernel_rfl) (fun _ => by kernel_rfl) ?_
                                      refine ops_end ?_
                                      refine At.env [(12, .bool false)] ⟨by kernel_rfl, trivial⟩ ?_
                                      refine at_then_normal ?_
                                      refine at_ret (by kernel_rfl) ?_
                                      refine at_then_ret ?_
                                      obtain rfl := someE H
                                      refine at_backR [.bool false] (Γ) (rs := [.tmp 12]) (by kernel_rfl) (.cons (.tmp (by kernel_rfl)) .nil) (fun w hw => (Sat.less (.drop .here (.drop .here (.drop .here (.drop .here (.drop .here (.drop .here (.drop .here (.drop .here .refl)))))))) hw)) ?_
                                      exact ⟨rfl, rfl⟩
                                    · replace H := bifF H h23
                                      refine s_pure 203 (.bool false) (by kernel_rfl) (by kernel_rfl) (run_eq (v := .bool (!(decide ((((List.length e6_b15_2_8x) : Nat) : Int) = (0 : Int))))) (fun _ => by kernel_rfl) (congrArg Value.bool h23)) ?_
                                      refine s_pure 204 (.pointer (some ⟨b6_0_0, 0, none⟩)) (by kernel_rfl) (by kernel_rfl) (fun _ => by kernel_rfl) ?_
                                      obtain ⟨y36_53, hy36_53, H⟩ := letE H
                                      refine s_call 205 23 #[.pointer (some ⟨b6_0_0, 0, none⟩)] (by kernel_rfl) (by kernel_rfl) (fun _ => by kernel_rfl) (Tr.conv (Γ' := (CacheA b6_0_0 e6_b6_0_0) :: (IntsA (some ⟨b36_35, 0, none⟩) 1 l36_35) :: (IntsA e6_b15_2_8a e6_b15_2_8c e6_b15_2_8x) :: (ImmI e6_b14_12_6a e6_b14_12_6x) :: (Asn.own b16_1 (.cells #[.int .i64 (8), .int .i64 (0), .int .i64 (0), .int .i64 (5), .int .i64 (1), .int .i64 (0), .int .i64 (0), .bool false, .slice none 0 0] 40 (0, 0))) :: (Asn.own b15_2 (.cells #[.int .i64 e6_b15_2_0, .int .i64 e6_b15_2_1, .int .i64 e6_b15_2_2, .int .i64 e6_b15_2_3, .int .i64 e6_b15_2_4, .int .i64 e6_b15_2_5, .int .i64 e6_b15_2_6, .bool e6_b15_2_7, .slice e6_b15_2_8a (List.length e6_b15_2_8x) e6_b15_2_8c] 40 (0, 0))) :: (Asn.own b14_12 (.cells #[.int .i64 e6_b14_12_0, .int .i64 e6_b14_12_1, .int .i64 e6_b14_12_2, .int .i64 e6_b14_12_3, .int .i64 e6_b14_12_4, .int .i64 e6_b14_12_5, .slice e6_b14_12_6a (List.length e6_b14_12_6x) e6_b14_12_6c, .int .i64 e6_b14_12_7, .int .i64 e6_b14_12_8] 35 (0, 0))) :: (RCacheA b6_0_1 y6_0.2) :: Γ) (fun w hw => (Sat.less (.take (.there (.there (.there (.there (.there (.there .here)))))) (.take .here (.take .here (.take .here (.take .here (.take .here (.take .here (.take .here .refl)))))))) hw)) (LenF_tr b6_0_0 e6_b6_0_0 y36_53 hy36_53)) ?_
                                      rintro _ _ ⟨rfl, rfl⟩
                                      refine s_pure 206 (.bool (!(decide (y36_53 = (0 : Int))))) (by kernel_rfl) (by kernel_rfl) (fun _ => by kernel_rfl) ?_
                                      refine s_pure 207 (.bool (!(decide (y36_53 = (0 : Int))))) (by kernel_rfl) (by kernel_rfl) (fun _ => by kernel_rfl) ?_
                                      refine ops_end ?_
                                      refine At.env [(14, .pointer (some ⟨b6_0_0, 0, none⟩)), (17, .pointer (some ⟨b14_12, 0, none⟩)), (20, .pointer (some ⟨b16_1, 0, none⟩)), (207, .bool (!(decide (y36_53 = (0 : Int)))))] ⟨by kernel_rfl, by kernel_rfl, by kernel_rfl, by kernel_rfl, trivial⟩ ?_
                                      refine at_then_normal ?_
                                      rcases Bool.eq_false_or_eq_true (!(decide (y36_53 = (0 : Int)))) with h24 | h24
                                      · replace H := bifT H h24
                                        refine at_true (t := !(decide (y36_53 = (0 : Int)))) (x := C8 [1,1,1,1,1,1,1,1,1,1,1,1,1,1,1,0,1,0]) (y := C8 [1,1,1,1,1,1,1,1,1,1,1,1,1,1,1,0,1,1]) (o := .tmp 207) (by kernel_rfl) (by kernel_rfl) (by kernel_rfl) h24 ?_
                                        refine at_seq (x := C8 [1,1,1,1,1,1,1,1,1,1,1,1,1,1,1,0,1,0,0]) (y := C8 [1,1,1,1,1,1,1,1,1,1,1,1,1,1,1,0,1,0,1]) (by kernel_rfl) ?_
                                        refine at_region (id := 37) 1 (by kernel_rfl) (by kernel_rfl) ?_
                                        refine s_pure 12 (.bool false) (by kernel_rfl) (by kernel_rfl) (fun _ => by kernel_rfl) ?_
                                        refine ops_end ?_
                                        refine At.env [(12, .bool false)] ⟨by kernel_rfl, trivial⟩ ?_
                                        refine at_then_normal ?_
                                        refine at_ret (by kernel_rfl) ?_
                                        refine at_then_ret ?_
                                        obtain rfl := someE H
                                        refine at_backR [.bool false] (Γ) (rs := [.tmp 12]) (by kernel_rfl) (.cons (.tmp (by kernel_rfl)) .nil) (fun w hw => (Sat.less (.drop .here (.drop .here (.drop .here (.drop .here (.drop .here (.drop .here (.drop .here (.drop .here .refl)))))))) hw)) ?_
                                        exact ⟨rfl, rfl⟩
                                      · replace H := bifF H h24
                                        refine at_false (t := !(decide (y36_53 = (0 : Int)))) (x := C8 [1,1,1,1,1,1,1,1,1,1,1,1,1,1,1,0,1,0]) (y := C8 [1,1,1,1,1,1,1,1,1,1,1,1,1,1,1,0,1,1]) (o := .tmp 207) (by kernel_rfl) (by kernel_rfl) (by kernel_rfl) h24 ?_
                                        refine at_skip (by kernel_rfl) ?_
                                        refine at_round_normal ?_
                                        exact at_join_mk [(14, .pointer (some ⟨b6_0_0, 0, none⟩)), (17, .pointer (some ⟨b14_12, 0, none⟩)), (20, .pointer (some ⟨b16_1, 0, none⟩))] ((ImmI e6_b14_12_6a e6_b14_12_6x) :: (Asn.own b16_1 (.cells #[.int .i64 (8), .int .i64 (0), .int .i64 (0), .int .i64 (5), .int .i64 (1), .int .i64 (0), .int .i64 (0), .bool false, .slice none 0 0] 40 (0, 0))) :: (Asn.own b14_12 (.cells #[.int .i64 e6_b14_12_0, .int .i64 e6_b14_12_1, .int .i64 e6_b14_12_2, .int .i64 e6_b14_12_3, .int .i64 e6_b14_12_4, .int .i64 e6_b14_12_5, .slice e6_b14_12_6a (List.length e6_b14_12_6x) e6_b14_12_6c, .int .i64 e6_b14_12_7, .int .i64 e6_b14_12_8] 35 (0, 0))) :: (CacheA b6_0_0 e6_b6_0_0) :: (RCacheA b6_0_1 y6_0.2) :: Γ) ⟨by kernel_rfl, by kernel_rfl, by kernel_rfl, trivial⟩ (fun w hw => (Sat.less (.take (.there (.there (.there .here))) (.take (.there (.there (.there .here))) (.take (.there (.there (.there (.there .here)))) (.take .here (.take (.there (.there (.there .here))) (.drop .here (.drop .here (.drop .here .refl)))))))) hw)) ⟨H, rfl, rfl⟩
                                  · replace H := bifF H h22
                                    refine s_pure 196 (.bool false) (by kernel_rfl) (by kernel_rfl) (run_eq (v := .bool (!e6_b15_2_7)) (fun _ => by kernel_rfl) (congrArg Value.bool h22)) ?_
                                    refine s_pass 197 (by kernel_rfl) (by kernel_rfl) ?_
                                    refine s_pass 198 (by kernel_rfl) (by kernel_rfl) ?_
                                    refine s_pass 199 (by kernel_rfl) (by kernel_rfl) ?_
                                    refine s_pass 200 (by kernel_rfl) (by kernel_rfl) ?_
                                    refine s_pure 201 (.bool false) (by kernel_rfl) (by kernel_rfl) (fun _ => by kernel_rfl) ?_
                                    refine s_pure 202 (.bool false) (by kernel_rfl) (by kernel_rfl) (fun _ => by kernel_rfl) ?_
                                    refine s_pure 203 (.bool false) (by kernel_rfl) (by kernel_rfl) (fun _ => by kernel_rfl) ?_
                                    refine s_pure 204 (.pointer (some ⟨b6_0_0, 0, none⟩)) (by kernel_rfl) (by kernel_rfl) (fun _ => by kernel_rfl) ?_
                                    obtain ⟨y36_53, hy36_53, H⟩ := letE H
                                    refine s_call 205 23 #[.pointer (some ⟨b6_0_0, 0, none⟩)] (by kernel_rfl) (by kernel_rfl) (fun _ => by kernel_rfl) (Tr.conv (Γ' := (CacheA b6_0_0 e6_b6_0_0) :: (IntsA (some ⟨b36_35, 0, none⟩) 1 l36_35) :: (IntsA e6_b15_2_8a e6_b15_2_8c e6_b15_2_8x) :: (ImmI e6_b14_12_6a e6_b14_12_6x) :: (Asn.own b16_1 (.cells #[.int .i64 (8), .int .i64 (0), .int .i64 (0), .int .i64 (5), .int .i64 (1), .int .i64 (0), .int .i64 (0), .bool false, .slice none 0 0] 40 (0, 0))) :: (Asn.own b15_2 (.cells #[.int .i64 e6_b15_2_0, .int .i64 e6_b15_2_1, .int .i64 e6_b15_2_2, .int .i64 e6_b15_2_3, .int .i64 e6_b15_2_4, .int .i64 e6_b15_2_5, .int .i64 e6_b15_2_6, .bool e6_b15_2_7, .slice e6_b15_2_8a (List.length e6_b15_2_8x) e6_b15_2_8c] 40 (0, 0))) :: (Asn.own b14_12 (.cells #[.int .i64 e6_b14_12_0, .int .i64 e6_b14_12_1, .int .i64 e6_b14_12_2, .int .i64 e6_b14_12_3, .int .i64 e6_b14_12_4, .int .i64 e6_b14_12_5, .slice e6_b14_12_6a (List.length e6_b14_12_6x) e6_b14_12_6c, .int .i64 e6_b14_12_7, .int .i64 e6_b14_12_8] 35 (0, 0))) :: (RCacheA b6_0_1 y6_0.2) :: Γ) (fun w hw => (Sat.less (.take (.there (.there (.there (.there (.there (.there .here)))))) (.take .here (.take .here (.take .here (.take .here (.take .here (.take .here (.take .here .refl)))))))) hw)) (LenF_tr b6_0_0 e6_b6_0_0 y36_53 hy36_53)) ?_
                                    rintro _ _ ⟨rfl, rfl⟩
                                    refine s_pure 206 (.bool (!(decide (y36_53 = (0 : Int))))) (by kernel_rfl) (by kernel_rfl) (fun _ => by kernel_rfl) ?_
                                    refine s_pure 207 (.bool (!(decide (y36_53 = (0 : Int))))) (by kernel_rfl) (by kernel_rfl) (fun _ => by kernel_rfl) ?_
                                    refine ops_end ?_
                                    refine At.env [(14, .pointer (some ⟨b6_0_0, 0, none⟩)), (17, .pointer (some ⟨b14_12, 0, none⟩)), (20, .pointer (some ⟨b16_1, 0, none⟩)), (207, .bool (!(decide (y36_53 = (0 : Int)))))] ⟨by kernel_rfl, by kernel_rfl, by kernel_rfl, by kernel_rfl, trivial⟩ ?_
                                    refine at_then_normal ?_
                                    rcases Bool.eq_false_or_eq_true (!(decide (y36_53 = (0 : Int)))) with h25 | h25
                                    · replace H := bifT H h25
                                      refine at_true (t := !(decide (y36_53 = (0 : Int)))) (x := C8 [1,1,1,1,1,1,1,1,1,1,1,1,1,1,1,0,1,0]) (y := C8 [1,1,1,1,1,1,1,1,1,1,1,1,1,1,1,0,1,1]) (o := .tmp 207) (by kernel_rfl) (by kernel_rfl) (by kernel_rfl) h25 ?_
                                      refine at_seq (x := C8 [1,1,1,1,1,1,1,1,1,1,1,1,1,1,1,0,1,0,0]) (y := C8 [1,1,1,1,1,1,1,1,1,1,1,1,1,1,1,0,1,0,1]) (by kernel_rfl) ?_
                                      refine at_region (id := 37) 1 (by kernel_rfl) (by kernel_rfl) ?_
                                      refine s_pure 12 (.bool false) (by kernel_rfl) (by kernel_rfl) (fun _ => by kernel_rfl) ?_
                                      refine ops_end ?_
                                      refine At.env [(12, .bool false)] ⟨by kernel_rfl, trivial⟩ ?_
                                      refine at_then_normal ?_
                                      refine at_ret (by kernel_rfl) ?_
                                      refine at_then_ret ?_
                                      obtain rfl := someE H
                                      refine at_backR [.bool false] (Γ) (rs := [.tmp 12]) (by kernel_rfl) (.cons (.tmp (by kernel_rfl)) .nil) (fun w hw => (Sat.less (.drop .here (.drop .here (.drop .here (.drop .here (.drop .here (.drop .here (.drop .here (.drop .here .refl)))))))) hw)) ?_
                                      exact ⟨rfl, rfl⟩
                                    · replace H := bifF H h25
                                      refine at_false (t := !(decide (y36_53 = (0 : Int)))) (x := C8 [1,1,1,1,1,1,1,1,1,1,1,1,1,1,1,0,1,0]) (y := C8 [1,1,1,1,1,1,1,1,1,1,1,1,1,1,1,0,1,1]) (o := .tmp 207) (by kernel_rfl) (by kernel_rfl) (by kernel_rfl) h25 ?_
                                      refine at_skip (by kernel_rfl) ?_
                                      refine at_round_normal ?_
                                      exact at_join_mk [(14, .pointer (some ⟨b6_0_0, 0, none⟩)), (17, .pointer (some ⟨b14_12, 0, none⟩)), (20, .pointer (some ⟨b16_1, 0, none⟩))] ((ImmI e6_b14_12_6a e6_b14_12_6x) :: (Asn.own b16_1 (.cells #[.int .i64 (8), .int .i64 (0), .int .i64 (0), .int .i64 (5), .int .i64 (1), .int .i64 (0), .int .i64 (0), .bool false, .slice none 0 0] 40 (0, 0))) :: (Asn.own b14_12 (.cells #[.int .i64 e6_b14_12_0, .int .i64 e6_b14_12_1, .int .i64 e6_b14_12_2, .int .i64 e6_b14_12_3, .int .i64 e6_b14_12_4, .int .i64 e6_b14_12_5, .slice e6_b14_12_6a (List.length e6_b14_12_6x) e6_b14_12_6c, .int .i64 e6_b14_12_7, .int .i64 e6_b14_12_8] 35 (0, 0))) :: (CacheA b6_0_0 e6_b6_0_0) :: (RCacheA b6_0_1 y6_0.2) :: Γ) ⟨by kernel_rfl, by kernel_rfl, by kernel_rfl, trivial⟩ (fun w hw => (Sat.less (.take (.there (.there (.there .here))) (.take (.there (.there (.there .here))) (.take (.there (.there (.there (.there .here)))) (.take .here (.take (.there (.there (.there .here))) (.drop .here (.drop .here (.drop .here .refl)))))))) hw)) ⟨H, rfl, rfl⟩
                              · replace H := bifF H h20
                                refine s_pure 183 (.bool false) (by kernel_rfl) (by kernel_rfl) (run_eq (v := .bool (e6_b15_2_7)) (fun _ => by kernel_rfl) (congrArg Value.bool h20)) ?_
                                refine s_pass 184 (by kernel_rfl) (by kernel_rfl) ?_
                                refine s_pass 185 (by kernel_rfl) (by kernel_rfl) ?_
                                refine s_pass 186 (by kernel_rfl) (by kernel_rfl) ?_
                                refine s_pass 187 (by kernel_rfl) (by kernel_rfl) ?_
                                refine s_pass 188 (by kernel_rfl) (by kernel_rfl) ?_
                                refine s_pass 189 (by kernel_rfl) (by kernel_rfl) ?_
                                refine s_pure 190 (.bool false) (by kernel_rfl) (by kernel_rfl) (fun _ => by kernel_rfl) ?_
                                refine s_pure 191 (.bool false) (by kernel_rfl) (by kernel_rfl) (fun _ => by kernel_rfl) ?_
                                refine s_pure 192 (.bool false) (by kernel_rfl) (by kernel_rfl) (fun _ => by kernel_rfl) ?_
                                refine s_pure 193 (.pointer (some ⟨b15_2, 7, none⟩)) (by kernel_rfl) (by kernel_rfl) (fun _ => by kernel_rfl) ?_
                                refine s_load 194 (.bool e6_b15_2_7) (by kernel_rfl) (by kernel_rfl) (load1 (off := 7) (fun _ => by kernel_rfl) (holds_own (.there (.there (.there .here)))) (by kernel_rfl)) ?_
                                refine s_pure 195 (.bool !e6_b15_2_7) (by kernel_rfl) (by kernel_rfl) (fun _ => by kernel_rfl) ?_
                                rcases Bool.eq_false_or_eq_true (!e6_b15_2_7) with h26 | h26
                                · replace H := bifT H h26
                                  refine s_pure 196 (.bool true) (by kernel_rfl) (by kernel_rfl) (run_eq (v := .bool (!e6_b15_2_7)) (fun _ => by kernel_rfl) (congrArg Value.bool h26)) ?_
                                  refine s_pure 197 (.pointer (some ⟨b15_2, 8, none⟩)) (by kernel_rfl) (by kernel_rfl) (fun _ => by kernel_rfl) ?_
                                  refine s_load 198 (.slice e6_b15_2_8a (List.length e6_b15_2_8x) e6_b15_2_8c) (by kernel_rfl) (by kernel_rfl) (load1 (off := 8) (fun _ => by kernel_rfl) (holds_own (.there (.there (.there .here)))) (by kernel_rfl)) ?_
                                  refine s_pure 199 (.int .i64 (((List.length e6_b15_2_8x) : Nat) : Int)) (by kernel_rfl) (by kernel_rfl) (fun _ => by kernel_rfl) ?_
                                  refine s_pure 200 (.bool (!(decide ((((List.length e6_b15_2_8x) : Nat) : Int) = (0 : Int))))) (by kernel_rfl) (by kernel_rfl) (fun _ => by kernel_rfl) ?_
                                  refine s_pure 201 (.bool (!(decide ((((List.length e6_b15_2_8x) : Nat) : Int) = (0 : Int))))) (by kernel_rfl) (by kernel_rfl) (fun _ => by kernel_rfl) ?_
                                  refine s_pure 202 (.bool (!(decide ((((List.length e6_b15_2_8x) : Nat) : Int) = (0 : Int))))) (by kernel_rfl) (by kernel_rfl) (fun _ => by kernel_rfl) ?_
                                  rcases Bool.eq_false_or_eq_true (!(decide ((((List.length e6_b15_2_8x) : Nat) : Int) = (0 : Int)))) with h27 | h27
                                  · replace H := bifT H h27
                                    refine s_pure 203 (.bool true) (by kernel_rfl) (by kernel_rfl) (run_eq (v := .bool (!(decide ((((List.length e6_b15_2_8x) : Nat) : Int) = (0 : Int))))) (fun _ => by kernel_rfl) (congrArg Value.bool h27)) ?_
                                    refine s_pass 204 (by kernel_rfl) (by kernel_rfl) ?_
                                    refine s_pass 205 (by kernel_rfl) (by kernel_rfl) ?_
                                    refine s_pass 206 (by kernel_rfl) (by kernel_rfl) ?_
                                    refine s_pure 207 (.bool true) (by kernel_rfl) (by kernel_rfl) (fun _ => by kernel_rfl) ?_
                                    refine ops_end ?_
                                    refine At.env [(14, .pointer (some ⟨b6_0_0, 0, none⟩)), (17, .pointer (some ⟨b14_12, 0, none⟩)), (20, .pointer (some ⟨b16_1, 0, none⟩)), (207, .bool true)] ⟨by kernel_rfl, by kernel_rfl, by kernel_rfl, by kernel_rfl, trivial⟩ ?_
                                    refine at_then_normal ?_
                                    refine at_true (t := true) (x := C8 [1,1,1,1,1,1,1,1,1,1,1,1,1,1,1,0,1,0]) (y := C8 [1,1,1,1,1,1,1,1,1,1,1,1,1,1,1,0,1,1]) (o := .tmp 207) (by kernel_rfl) (by kernel_rfl) (by kernel_rfl) rfl ?_
                                    refine at_seq (x := C8 [1,1,1,1,1,1,1,1,1,1,1,1,1,1,1,0,1,0,0]) (y := C8 [1,1,1,1,1,1,1,1,1,1,1,1,1,1,1,0,1,0,1]) (by kernel_rfl) ?_
                                    refine at_region (id := 37) 1 (by kernel_rfl) (by kernel_rfl) ?_
                                    refine s_pure 12 (.bool false) (by kernel_rfl) (by kernel_rfl) (fun _ => by kernel_rfl) ?_
                                    refine ops_end ?_
                                    refine At.env [(12, .bool false)] ⟨by kernel_rfl, trivial⟩ ?_
                                    refine at_then_normal ?_
                                    refine at_ret (by kernel_rfl) ?_
                                    refine at_then_ret ?_
                                    obtain rfl := someE H
                                    refine at_backR [.bool false] (Γ) (rs := [.tmp 12]) (by kernel_rfl) (.cons (.tmp (by kernel_rfl)) .nil) (fun w hw => (Sat.less (.drop .here (.drop .here (.drop .here (.drop .here (.drop .here (.drop .here (.drop .here .refl))))))) hw)) ?_
                                    exact ⟨rfl, rfl⟩
                                  · replace H := bifF H h27
                                    refine s_pure 203 (.bool false) (by kernel_rfl) (by kernel_rfl) (run_eq (v := .bool (!(decide ((((List.length e6_b15_2_8x) : Nat) : Int) = (0 : Int))))) (fun _ => by kernel_rfl) (congrArg Value.bool h27)) ?_
                                    refine s_pure 204 (.pointer (some ⟨b6_0_0, 0, none⟩)) (by kernel_rfl) (by kernel_rfl) (fun _ => by kernel_rfl) ?_
                                    obtain ⟨y36_53, hy36_53, H⟩ := letE H
                                    refine s_call 205 23 #[.pointer (some ⟨b6_0_0, 0, none⟩)] (by kernel_rfl) (by kernel_rfl) (fun _ => by kernel_rfl) (Tr.conv (Γ' := (CacheA b6_0_0 e6_b6_0_0) :: (IntsA e6_b15_2_8a e6_b15_2_8c e6_b15_2_8x) :: (ImmI e6_b14_12_6a e6_b14_12_6x) :: (Asn.own b16_1 (.cells #[.int .i64 (8), .int .i64 (0), .int .i64 (0), .int .i64 (5), .int .i64 (1), .int .i64 (0), .int .i64 (0), .bool false, .slice none 0 0] 40 (0, 0))) :: (Asn.own b15_2 (.cells #[.int .i64 e6_b15_2_0, .int .i64 e6_b15_2_1, .int .i64 e6_b15_2_2, .int .i64 e6_b15_2_3, .int .i64 e6_b15_2_4, .int .i64 e6_b15_2_5, .int .i64 e6_b15_2_6, .bool e6_b15_2_7, .slice e6_b15_2_8a (List.length e6_b15_2_8x) e6_b15_2_8c] 40 (0, 0))) :: (Asn.own b14_12 (.cells #[.int .i64 e6_b14_12_0, .int .i64 e6_b14_12_1, .int .i64 e6_b14_12_2, .int .i64 e6_b14_12_3, .int .i64 e6_b14_12_4, .int .i64 e6_b14_12_5, .slice e6_b14_12_6a (List.length e6_b14_12_6x) e6_b14_12_6c, .int .i64 e6_b14_12_7, .int .i64 e6_b14_12_8] 35 (0, 0))) :: (RCacheA b6_0_1 y6_0.2) :: Γ) (fun w hw => (Sat.less (.take (.there (.there (.there (.there (.there .here))))) (.take .here (.take .here (.take .here (.take .here (.take .here (.take .here .refl))))))) hw)) (LenF_tr b6_0_0 e6_b6_0_0 y36_53 hy36_53)) ?_
                                    rintro _ _ ⟨rfl, rfl⟩
                                    refine s_pure 206 (.bool (!(decide (y36_53 = (0 : Int))))) (by kernel_rfl) (by kernel_rfl) (fun _ => by kernel_rfl) ?_
                                    refine s_pure 207 (.bool (!(decide (y36_53 = (0 : Int))))) (by kernel_rfl) (by kernel_rfl) (fun _ => by kernel_rfl) ?_
                                    refine ops_end ?_
                                    refine At.env [(14, .pointer (some ⟨b6_0_0, 0, none⟩)), (17, .pointer (some ⟨b14_12, 0, none⟩)), (20, .pointer (some ⟨b16_1, 0, none⟩)), (207, .bool (!(decide (y36_53 = (0 : Int)))))] ⟨by kernel_rfl, by kernel_rfl, by kernel_rfl, by kernel_rfl, trivial⟩ ?_
                                    refine at_then_normal ?_
                                    rcases Bool.eq_false_or_eq_true (!(decide (y36_53 = (0 : Int)))) with h28 | h28
                                    · replace H := bifT H h28
                                      refine at_true (t := !(decide (y36_53 = (0 : Int)))) (x := C8 [1,1,1,1,1,1,1,1,1,1,1,1,1,1,1,0,1,0]) (y := C8 [1,1,1,1,1,1,1,1,1,1,1,1,1,1,1,0,1,1]) (o := .tmp 207) (by kernel_rfl) (by kernel_rfl) (by kernel_rfl) h28 ?_
                                      refine at_seq (x := C8 [1,1,1,1,1,1,1,1,1,1,1,1,1,1,1,0,1,0,0]) (y := C8 [1,1,1,1,1,1,1,1,1,1,1,1,1,1,1,0,1,0,1]) (by kernel_rfl) ?_
                                      refine at_region (id := 37) 1 (by kernel_rfl) (by kernel_rfl) ?_
                                      refine s_pure 12 (.bool false) (by kernel_rfl) (by kernel_rfl) (fun _ => by kernel_rfl) ?_
                                      refine ops_end ?_
                                      refine At.env [(12, .bool false)] ⟨by kernel_rfl, trivial⟩ ?_
                                      refine at_then_normal ?_
                                      refine at_ret (by kernel_rfl) ?_
                                      refine at_then_ret ?_
                                      obtain rfl := someE H
                                      refine at_backR [.bool false] (Γ) (rs := [.tmp 12]) (by kernel_rfl) (.cons (.tmp (by kernel_rfl)) .nil) (fun w hw => (Sat.less (.drop .here (.drop .here (.drop .here (.drop .here (.drop .here (.drop .here (.drop .here .refl))))))) hw)) ?_
                                      exact ⟨rfl, rfl⟩
                                    · replace H := bifF H h28
                                      refine at_false (t := !(decide (y36_53 = (0 : Int)))) (x := C8 [1,1,1,1,1,1,1,1,1,1,1,1,1,1,1,0,1,0]) (y := C8 [1,1,1,1,1,1,1,1,1,1,1,1,1,1,1,0,1,1]) (o := .tmp 207) (by kernel_rfl) (by kernel_rfl) (by kernel_rfl) h28 ?_
                                      refine at_skip (by kernel_rfl) ?_
                                      refine at_round_normal ?_
                                      exact at_join_mk [(14, .pointer (some ⟨b6_0_0, 0, none⟩)), (17, .pointer (some ⟨b14_12, 0, none⟩)), (20, .pointer (some ⟨b16_1, 0, none⟩))] ((ImmI e6_b14_12_6a e6_b14_12_6x) :: (Asn.own b16_1 (.cells #[.int .i64 (8), .int .i64 (0), .int .i64 (0), .int .i64 (5), .int .i64 (1), .int .i64 (0), .int .i64 (0), .bool false, .slice none 0 0] 40 (0, 0))) :: (Asn.own b14_12 (.cells #[.int .i64 e6_b14_12_0, .int .i64 e6_b14_12_1, .int .i64 e6_b14_12_2, .int .i64 e6_b14_12_3, .int .i64 e6_b14_12_4, .int .i64 e6_b14_12_5, .slice e6_b14_12_6a (List.length e6_b14_12_6x) e6_b14_12_6c, .int .i64 e6_b14_12_7, .int .i64 e6_b14_12_8] 35 (0, 0))) :: (CacheA b6_0_0 e6_b6_0_0) :: (RCacheA b6_0_1 y6_0.2) :: Γ) ⟨by kernel_rfl, by kernel_rfl, by kernel_rfl, trivial⟩ (fun w hw => (Sat.less (.take (.there (.there .here)) (.take (.there (.there .here)) (.take (.there (.there (.there .here))) (.take .here (.take (.there (.there .here)) (.drop .here (.drop .here .refl))))))) hw)) ⟨H, rfl, rfl⟩
                                · replace H := bifF H h26
                                  refine s_pure 196 (.bool false) (by kernel_rfl) (by kernel_rfl) (run_eq (v := .bool (!e6_b15_2_7)) (fun _ => by kernel_rfl) (congrArg Value.bool h26)) ?_
                                  refine s_pass 197 (by kernel_rfl) (by kernel_rfl) ?_
                                  refine s_pass 198 (by kernel_rfl) (by kernel_rfl) ?_
                                  refine s_pass 199 (by kernel_rfl) (by kernel_rfl) ?_
                                  refine s_pass 200 (by kernel_rfl) (by kernel_rfl) ?_
                                  refine s_pure 201 (.bool false) (by kernel_rfl) (by kernel_rfl) (fun _ => by kernel_rfl) ?_
                                  refine s_pure 202 (.bool false) (by kernel_rfl) (by kernel_rfl) (fun _ => by kernel_rfl) ?_
                                  refine s_pure 203 (.bool false) (by kernel_rfl) (by kernel_rfl) (fun _ => by kernel_rfl) ?_
                                  refine s_pure 204 (.pointer (some ⟨b6_0_0, 0, none⟩)) (by kernel_rfl) (by kernel_rfl) (fun _ => by kernel_rfl) ?_
                                  obtain ⟨y36_53, hy36_53, H⟩ := letE H
                                  refine s_call 205 23 #[.pointer (some ⟨b6_0_0, 0, none⟩)] (by kernel_rfl) (by kernel_rfl) (fun _ => by kernel_rfl) (Tr.conv (Γ' := (CacheA b6_0_0 e6_b6_0_0) :: (IntsA e6_b15_2_8a e6_b15_2_8c e6_b15_2_8x) :: (ImmI e6_b14_12_6a e6_b14_12_6x) :: (Asn.own b16_1 (.cells #[.int .i64 (8), .int .i64 (0), .int .i64 (0), .int .i64 (5), .int .i64 (1), .int .i64 (0), .int .i64 (0), .bool false, .slice none 0 0] 40 (0, 0))) :: (Asn.own b15_2 (.cells #[.int .i64 e6_b15_2_0, .int .i64 e6_b15_2_1, .int .i64 e6_b15_2_2, .int .i64 e6_b15_2_3, .int .i64 e6_b15_2_4, .int .i64 e6_b15_2_5, .int .i64 e6_b15_2_6, .bool e6_b15_2_7, .slice e6_b15_2_8a (List.length e6_b15_2_8x) e6_b15_2_8c] 40 (0, 0))) :: (Asn.own b14_12 (.cells #[.int .i64 e6_b14_12_0, .int .i64 e6_b14_12_1, .int .i64 e6_b14_12_2, .int .i64 e6_b14_12_3, .int .i64 e6_b14_12_4, .int .i64 e6_b14_12_5, .slice e6_b14_12_6a (List.length e6_b14_12_6x) e6_b14_12_6c, .int .i64 e6_b14_12_7, .int .i64 e6_b14_12_8] 35 (0, 0))) :: (RCacheA b6_0_1 y6_0.2) :: Γ) (fun w hw => (Sat.less (.take (.there (.there (.there (.there (.there .here))))) (.take .here (.take .here (.take .here (.take .here (.take .here (.take .here .refl))))))) hw)) (LenF_tr b6_0_0 e6_b6_0_0 y36_53 hy36_53)) ?_
                                  rintro _ _ ⟨rfl, rfl⟩
                                  refine s_pure 206 (.bool (!(decide (y36_53 = (0 : Int))))) (by kernel_rfl) (by kernel_rfl) (fun _ => by kernel_rfl) ?_
                                  refine s_pure 207 (.bool (!(decide (y36_53 = (0 : Int))))) (by kernel_rfl) (by kernel_rfl) (fun _ => by kernel_rfl) ?_
                                  refine ops_end ?_
                                  refine At.env [(14, .pointer (some ⟨b6_0_0, 0, none⟩)), (17, .pointer (some ⟨b14_12, 0, none⟩)), (20, .pointer (some ⟨b16_1, 0, none⟩)), (207, .bool (!(decide (y36_53 = (0 : Int)))))] ⟨by kernel_rfl, by kernel_rfl, by kernel_rfl, by kernel_rfl, trivial⟩ ?_
                                  refine at_then_normal ?_
                                  rcases Bool.eq_false_or_eq_true (!(decide (y36_53 = (0 : Int)))) with h29 | h29
                                  · replace H := bifT H h29
                                    refine at_true (t := !(decide (y36_53 = (0 : Int)))) (x := C8 [1,1,1,1,1,1,1,1,1,1,1,1,1,1,1,0,1,0]) (y := C8 [1,1,1,1,1,1,1,1,1,1,1,1,1,1,1,0,1,1]) (o := .tmp 207) (by kernel_rfl) (by kernel_rfl) (by kernel_rfl) h29 ?_
                                    refine at_seq (x := C8 [1,1,1,1,1,1,1,1,1,1,1,1,1,1,1,0,1,0,0]) (y := C8 [1,1,1,1,1,1,1,1,1,1,1,1,1,1,1,0,1,0,1]) (by kernel_rfl) ?_
                                    refine at_region (id := 37) 1 (by kernel_rfl) (by kernel_rfl) ?_
                                    refine s_pure 12 (.bool false) (by kernel_rfl) (by kernel_rfl) (fun _ => by kernel_rfl) ?_
                                    refine ops_end ?_
                                    refine At.env [(12, .bool false)] ⟨by kernel_rfl, trivial⟩ ?_
                                    refine at_then_normal ?_
                                    refine at_ret (by kernel_rfl) ?_
                                    refine at_then_ret ?_
                                    obtain rfl := someE H
                                    refine at_backR [.bool false] (Γ) (rs := [.tmp 12]) (by kernel_rfl) (.cons (.tmp (by kernel_rfl)) .nil) (fun w hw => (Sat.less (.drop .here (.drop .here (.drop .here (.drop .here (.drop .here (.drop .here (.drop .here .refl))))))) hw)) ?_
                                    exact ⟨rfl, rfl⟩
                                  · replace H := bifF H h29
                                    refine at_false (t := !(decide (y36_53 = (0 : Int)))) (x := C8 [1,1,1,1,1,1,1,1,1,1,1,1,1,1,1,0,1,0]) (y := C8 [1,1,1,1,1,1,1,1,1,1,1,1,1,1,1,0,1,1]) (o := .tmp 207) (by kernel_rfl) (by kernel_rfl) (by kernel_rfl) h29 ?_
                                    refine at_skip (by kernel_rfl) ?_
                                    refine at_round_normal ?_
                                    exact at_join_mk [(14, .pointer (some ⟨b6_0_0, 0, none⟩)), (17, .pointer (some ⟨b14_12, 0, none⟩)), (20, .pointer (some ⟨b16_1, 0, none⟩))] ((ImmI e6_b14_12_6a e6_b14_12_6x) :: (Asn.own b16_1 (.cells #[.int .i64 (8), .int .i64 (0), .int .i64 (0), .int .i64 (5), .int .i64 (1), .int .i64 (0), .int .i64 (0), .bool false, .slice none 0 0] 40 (0, 0))) :: (Asn.own b14_12 (.cells #[.int .i64 e6_b14_12_0, .int .i64 e6_b14_12_1, .int .i64 e6_b14_12_2, .int .i64 e6_b14_12_3, .int .i64 e6_b14_12_4, .int .i64 e6_b14_12_5, .slice e6_b14_12_6a (List.length e6_b14_12_6x) e6_b14_12_6c, .int .i64 e6_b14_12_7, .int .i64 e6_b14_12_8] 35 (0, 0))) :: (CacheA b6_0_0 e6_b6_0_0) :: (RCacheA b6_0_1 y6_0.2) :: Γ) ⟨by kernel_rfl, by kernel_rfl, by kernel_rfl, trivial⟩ (fun w hw => (Sat.less (.take (.there (.there .here)) (.take (.there (.there .here)) (.take (.there (.there (.there .here))) (.take .here (.take (.there (.there .here)) (.drop .here (.drop .here .refl))))))) hw)) ⟨H, rfl, rfl⟩
              · refine at_seq (x := C8 [1,1,1,1,1,1,1,1,1,1,1,1,1,1,0,0]) (y := C8 [1,1,1,1,1,1,1,1,1,1,1,1,1,1,0,1]) (by kernel_rfl) ?_
                refine at_region (id := 18) 1 (by kernel_rfl) (by kernel_rfl) ?_
                refine s_pure 82 (.bool there) (by kernel_rfl) (by kernel_rfl) (fun _ => by kernel_rfl) ?_
                refine ops_end ?_
                refine At.env [(0, .int .i64 e0_0), (1, .int .i64 e0_1), (3, .int .i64 data), (4, .bool e3_4), (5, .bool there), (13, .bool e2_13), (14, .pointer (some ⟨b6_0_0, 0, none⟩)), (17, .pointer (some ⟨b14_12, 0, none⟩)), (18, .bool y14_8.2.1), (19, .pointer (some ⟨b15_2, 0, none⟩)), (20, .pointer (some ⟨b16_1, 0, none⟩)), (21, .int .i64 e1_2), (22, .int .i64 e4_16), (82, .bool there)] ⟨by kernel_rfl, by kernel_rfl, by kernel_rfl, by kernel_rfl, by kernel_rfl, by kernel_rfl, by kernel_rfl, by kernel_rfl, by kernel_rfl, by kernel_rfl, by kernel_rfl, by kernel_rfl, by kernel_rfl, by kernel_rfl, trivial⟩ ?_
                refine at_then_normal ?_
                rcases Bool.eq_false_or_eq_true (there) with h30 | h30
                · replace H := bifT H h30
                  refine at_true (t := there) (x := C8 [1,1,1,1,1,1,1,1,1,1,1,1,1,1,0,1,0]) (y := C8 [1,1,1,1,1,1,1,1,1,1,1,1,1,1,0,1,1]) (o := .tmp 82) (by kernel_rfl) (by kernel_rfl) (by kernel_rfl) h30 ?_
                  refine at_seq (x := C8 [1,1,1,1,1,1,1,1,1,1,1,1,1,1,0,1,0,0]) (y := C8 [1,1,1,1,1,1,1,1,1,1,1,1,1,1,0,1,0,1]) (by kernel_rfl) ?_
                  refine at_region (id := 19) 1 (by kernel_rfl) (by kernel_rfl) ?_
                  refine s_pure 22 (.int .i64 (1)) (by kernel_rfl) (by kernel_rfl) (fun _ => by kernel_rfl) ?_
                  refine ops_end ?_
                  refine At.env [(0, .int .i64 e0_0), (1, .int .i64 e0_1), (3, .int .i64 data), (4, .bool e3_4), (5, .bool there), (13, .bool e2_13), (14, .pointer (some ⟨b6_0_0, 0, none⟩)), (17, .pointer (some ⟨b14_12, 0, none⟩)), (18, .bool y14_8.2.1), (19, .pointer (some ⟨b15_2, 0, none⟩)), (20, .pointer (some ⟨b16_1, 0, none⟩)), (21, .int .i64 e1_2), (22, .int .i64 (1))] ⟨by kernel_rfl, by kernel_rfl, by kernel_rfl, by kernel_rfl, by kernel_rfl, by kernel_rfl, by kernel_rfl, by kernel_rfl, by kernel_rfl, by kernel_rfl, by kernel_rfl, by kernel_rfl, by kernel_rfl, trivial⟩ ?_
                  refine at_then_normal ?_
                  refine at_seq_join (x := C8 [1,1,1,1,1,1,1,1,1,1,1,1,1,1,0,1,0,1,0]) (y := C8 [1,1,1,1,1,1,1,1,1,1,1,1,1,1,0,1,0,1,1]) (fun ff ΔΔ => ∃ (e8_18 : Bool) (e8_21 : Int) (e8_b15_2_0 : Int) (e8_b15_2_1 : Int) (e8_b15_2_2 : Int) (e8_b15_2_3 : Int) (e8_b15_2_4 : Int) (e8_b15_2_5 : Int) (e8_b15_2_6 : Int) (e8_b15_2_7 : Bool) (e8_b15_2_8x : List Int) (e8_b14_12_0 : Int) (e8_b14_12_1 : Int) (e8_b14_12_2 : Int) (e8_b14_12_3 : Int) (e8_b14_12_4 : Int) (e8_b14_12_5 : Int) (e8_b14_12_6x : List Int) (e8_b14_12_7 : Int) (e8_b14_12_8 : Int) (e8_b6_0_0 : CacheS) (e8_b15_2_8a : Option Addr) (e8_b15_2_8c : Nat) (e8_b14_12_6a : Option Addr) (e8_b14_12_6c : Nat), rolloutLeavesS_j8 e0_0 e2_13 there e3_4 data e0_1 e8_18 e8_21 e8_b15_2_0 e8_b15_2_1 e8_b15_2_2 e8_b15_2_3 e8_b15_2_4 e8_b15_2_5 e8_b15_2_6 e8_b15_2_7 e8_b15_2_8x e8_b14_12_0 e8_b14_12_1 e8_b14_12_2 e8_b14_12_3 e8_b14_12_4 e8_b14_12_5 e8_b14_12_6x e8_b14_12_7 e8_b14_12_8 e8_b6_0_0 = some y ∧ ff = [(0, .int .i64 e0_0), (1, .int .i64 e0_1), (3, .int .i64 data), (4, .bool e3_4), (5, .bool there), (13, .bool e2_13), (14, .pointer (some ⟨b6_0_0, 0, none⟩)), (17, .pointer (some ⟨b14_12, 0, none⟩)), (18, .bool e8_18), (19, .pointer (some ⟨b15_2, 0, none⟩)), (20, .pointer (some ⟨b16_1, 0, none⟩)), (21, .int .i64 e8_21), (22, .int .i64 (1))] ∧ (IntsA e8_b15_2_8a e8_b15_2_8c e8_b15_2_8x) :: (ImmI e8_b14_12_6a e8_b14_12_6x) :: (Asn.own b16_1 (.cells #[.int .i64 (8), .int .i64 (0), .int .i64 (0), .int .i64 (5), .int .i64 (1), .int .i64 (0), .int .i64 (0), .bool false, .slice none 0 0] 40 (0, 0))) :: (Asn.own b15_2 (.cells #[.int .i64 e8_b15_2_0, .int .i64 e8_b15_2_1, .int .i64 e8_b15_2_2, .int .i64 e8_b15_2_3, .int .i64 e8_b15_2_4, .int .i64 e8_b15_2_5, .int .i64 e8_b15_2_6, .bool e8_b15_2_7, .slice e8_b15_2_8a (List.length e8_b15_2_8x) e8_b15_2_8c] 40 (0, 0))) :: (Asn.own b14_12 (.cells #[.int .i64 e8_b14_12_0, .int .i64 e8_b14_12_1, .int .i64 e8_b14_12_2, .int .i64 e8_b14_12_3, .int .i64 e8_b14_12_4, .int .i64 e8_b14_12_5, .slice e8_b14_12_6a (List.length e8_b14_12_6x) e8_b14_12_6c, .int .i64 e8_b14_12_7, .int .i64 e8_b14_12_8] 35 (0, 0))) :: (CacheA b6_0_0 e8_b6_0_0) :: (RCacheA b6_0_1 y6_0.2) :: Γ = ΔΔ) (by kernel_rfl) ?_ ?_
                  · rintro _ _ ⟨e8_18, e8_21, e8_b15_2_0, e8_b15_2_1, e8_b15_2_2, e8_b15_2_3, e8_b15_2_4, e8_b15_2_5, e8_b15_2_6, e8_b15_2_7, e8_b15_2_8x, e8_b14_12_0, e8_b14_12_1, e8_b14_12_2, e8_b14_12_3, e8_b14_12_4, e8_b14_12_5, e8_b14_12_6x, e8_b14_12_7, e8_b14_12_8, e8_b6_0_0, e8_b15_2_8a, e8_b15_2_8c, e8_b14_12_6a, e8_b14_12_6c, H, rfl, rfl⟩
                    rw [rolloutLeavesS_j8] at H
                    refine at_seq (x := C8 [1,1,1,1,1,1,1,1,1,1,1,1,1,1,0,1,0,1,1,0]) (y := C8 [1,1,1,1,1,1,1,1,1,1,1,1,1,1,0,1,0,1,1,1]) (by kernel_rfl) ?_
                    refine at_seq (x := C8 [1,1,1,1,1,1,1,1,1,1,1,1,1,1,0,1,0,1,1,0,0]) (y := C8 [1,1,1,1,1,1,1,1,1,1,1,1,1,1,0,1,0,1,1,0,1]) (by kernel_rfl) ?_
                    refine at_region (id := 26) 2 (by kernel_rfl) (by kernel_rfl) ?_
                    refine s_pure 114 (.int .i64 e0_0) (by kernel_rfl) (by kernel_rfl) (fun _ => by kernel_rfl) ?_
                    refine s_pure 115 (.bool (!(decide (e0_0 = ((-1) : Int))))) (by kernel_rfl) (by kernel_rfl) (fun _ => by kernel_rfl) ?_
                    refine ops_end ?_
                    refine At.env [(0, .int .i64 e0_0), (1, .int .i64 e0_1), (3, .int .i64 data), (4, .bool e3_4), (5, .bool there), (13, .bool e2_13), (14, .pointer (some ⟨b6_0_0, 0, none⟩)), (17, .pointer (some ⟨b14_12, 0, none⟩)), (18, .bool e8_18), (19, .pointer (some ⟨b15_2, 0, none⟩)), (20, .pointer (some ⟨b16_1, 0, none⟩)), (21, .int .i64 e8_21), (22, .int .i64 (1)), (115, .bool (!(decide (e0_0 = ((-1) : Int)))))] ⟨by kernel_rfl, by kernel_rfl, by kernel_rfl, by kernel_rfl, by kernel_rfl, by kernel_rfl, by kernel_rfl, by kernel_rfl, by kernel_rfl, by kernel_rfl, by kernel_rfl, by kernel_rfl, by kernel_rfl, by kernel_rfl, trivial⟩ ?_
                    refine at_then_normal ?_
                    rcases Bool.eq_false_or_eq_true (!(decide (e0_0 = ((-1) : Int)))) with h31 | h31
                    · replace H := bifT H h31
                      refine at_true (t := !(decide (e0_0 = ((-1) : Int)))) (x := C8 [1,1,1,1,1,1,1,1,1,1,1,1,1,1,0,1,0,1,1,0,1,0]) (y := C8 [1,1,1,1,1,1,1,1,1,1,1,1,1,1,0,1,0,1,1,0,1,1]) (o := .tmp 115) (by kernel_rfl) (by kernel_rfl) (by kernel_rfl) h31 ?_
                      refine at_seq (x := C8 [1,1,1,1,1,1,1,1,1,1,1,1,1,1,0,1,0,1,1,0,1,0,0]) (y := C8 [1,1,1,1,1,1,1,1,1,1,1,1,1,1,0,1,0,1,1,0,1,0,1]) (by kernel_rfl) ?_
                      refine at_seq_join (x := C8 [1,1,1,1,1,1,1,1,1,1,1,1,1,1,0,1,0,1,1,0,1,0,0,0]) (y := C8 [1,1,1,1,1,1,1,1,1,1,1,1,1,1,0,1,0,1,1,0,1,0,0,1]) (fun ff ΔΔ => ∃ (e9_134 : Bool), rolloutLeavesS_j9 e8_b6_0_0 e8_b14_12_0 e8_b14_12_1 e8_b14_12_2 e8_b14_12_3 e8_b14_12_4 e8_b14_12_5 e8_b14_12_6x e8_b14_12_7 e8_b14_12_8 e2_13 there e3_4 data e8_21 e9_134 = some y ∧ ff = [(3, .int .i64 data), (4, .bool e3_4), (5, .bool there), (13, .bool e2_13), (14, .pointer (some ⟨b6_0_0, 0, none⟩)), (17, .pointer (some ⟨b14_12, 0, none⟩)), (19, .pointer (some ⟨b15_2, 0, none⟩)), (20, .pointer (some ⟨b16_1, 0, none⟩)), (21, .int .i64 e8_21), (22, .int .i64 (1)), (134, .bool e9_134)] ∧ (IntsA e8_b15_2_8a e8_b15_2_8c e8_b15_2_8x) :: (ImmI e8_b14_12_6a e8_b14_12_6x) :: (Asn.own b16_1 (.cells #[.int .i64 (8), .int .i64 (0), .int .i64 (0), .int .i64 (5), .int .i64 (1), .int .i64 (0), .int .i64 (0), .bool false, .slice none 0 0] 40 (0, 0))) :: (Asn.own b15_2 (.cells #[.int .i64 e8_b15_2_0, .int .i64 e8_b15_2_1, .int .i64 e8_b15_2_2, .int .i64 e8_b15_2_3, .int .i64 e8_b15_2_4, .int .i64 e8_b15_2_5, .int .i64 e8_b15_2_6, .bool e8_b15_2_7, .slice e8_b15_2_8a (List.length e8_b15_2_8x) e8_b15_2_8c] 40 (0, 0))) :: (Asn.own b14_12 (.cells #[.int .i64 e8_b14_12_0, .int .i64 e8_b14_12_1, .int .i64 e8_b14_12_2, .int .i64 e8_b14_12_3, .int .i64 e8_b14_12_4, .int .i64 e8_b14_12_5, .slice e8_b14_12_6a (List.length e8_b14_12_6x) e8_b14_12_6c, .int .i64 e8_b14_12_7, .int .i64 e8_b14_12_8] 35 (0, 0))) :: (CacheA b6_0_0 e8_b6_0_0) :: (RCacheA b6_0_1 y6_0.2) :: Γ = ΔΔ) (by kernel_rfl) ?_ ?_
                      · rintro _ _ ⟨e9_134, H, rfl, rfl⟩
                        rw [rolloutLeavesS_j9] at H
                        rcases Bool.eq_false_or_eq_true (e9_134) with h32 | h32
                        · replace H := bifT H h32
                          refine at_true (t := e9_134) (x := C8 [1,1,1,1,1,1,1,1,1,1,1,1,1,1,0,1,0,1,1,0,1,0,0,1,0]) (y := C8 [1,1,1,1,1,1,1,1,1,1,1,1,1,1,0,1,0,1,1,0,1,0,0,1,1]) (o := .tmp 134) (by kernel_rfl) (by kernel_rfl) (by kernel_rfl) h32 ?_
                          refine at_seq (x := C8 [1,1,1,1,1,1,1,1,1,1,1,1,1,1,0,1,0,1,1,0,1,0,0,1,0,0]) (y := C8 [1,1,1,1,1,1,1,1,1,1,1,1,1,1,0,1,0,1,1,0,1,0,0,1,0,1]) (by kernel_rfl) ?_
                          refine at_region (id := 28) 1 (by kernel_rfl) (by kernel_rfl) ?_
                          refine s_pure 12 (.bool false) (by kernel_rfl) (by kernel_rfl) (fun _ => by kernel_rfl) ?_
                          refine ops_end ?_
                          refine At.env [(12, .bool false)] ⟨by kernel_rfl, trivial⟩ ?_
                          refine at_then_normal ?_
                          refine at_ret (by kernel_rfl) ?_
                          refine at_then_ret ?_
                          refine at_then_ret ?_
                          refine at_then_ret ?_
                          obtain rfl := someE H
                          refine at_backR [.bool false] (Γ) (rs := [.tmp 12]) (by kernel_rfl) (.cons (.tmp (by kernel_rfl)) .nil) (fun w hw => (Sat.less (.drop .here (.drop .here (.drop .here (.drop .here (.drop .here (.drop .here (.drop .here .refl))))))) hw)) ?_
                          exact ⟨rfl, rfl⟩
                        · replace H := bifF H h32
                          refine at_false (t := e9_134) (x := C8 [1,1,1,1,1,1,1,1,1,1,1,1,1,1,0,1,0,1,1,0,1,0,0,1,0]) (y := C8 [1,1,1,1,1,1,1,1,1,1,1,1,1,1,0,1,0,1,1,0,1,0,0,1,1]) (o := .tmp 134) (by kernel_rfl) (by kernel_rfl) (by kernel_rfl) h32 ?_
                          refine at_skip (by kernel_rfl) ?_
                          refine at_then_normal ?_
                          refine at_seq (x := C8 [1,1,1,1,1,1,1,1,1,1,1,1,1,1,0,1,0,1,1,0,1,0,1,0]) (y := C8 [1,1,1,1,1,1,1,1,1,1,1,1,1,1,0,1,0,1,1,0,1,0,1,1]) (by kernel_rfl) ?_
                          refine at_seq (x := C8 [1,1,1,1,1,1,1,1,1,1,1,1,1,1,0,1,0,1,1,0,1,0,1,0,0]) (y := C8 [1,1,1,1,1,1,1,1,1,1,1,1,1,1,0,1,0,1,1,0,1,0,1,0,1]) (by kernel_rfl) ?_
                          refine at_region (id := 29) 8 (by kernel_rfl) (by kernel_rfl) ?_
                          refine s_pure 136 (.pointer (some ⟨b6_0_0, 0, none⟩)) (by kernel_rfl) (by kernel_rfl) (fun _ => by kernel_rfl) ?_
                          obtain ⟨y29_1, hy29_1, H⟩ := bindE H
                          refine s_call 137 18 #[.pointer (some ⟨b6_0_0, 0, none⟩), .int .i64 (1)] (by kernel_rfl) (by kernel_rfl) (fun _ => by kernel_rfl) (Tr.conv (Γ' := (CacheA b6_0_0 e8_b6_0_0) :: (IntsA e8_b15_2_8a e8_b15_2_8c e8_b15_2_8x) :: (ImmI e8_b14_12_6a e8_b14_12_6x) :: (Asn.own b16_1 (.cells #[.int .i64 (8), .int .i64 (0), .int .i64 (0), .int .i64 (5), .int .i64 (1), .int .i64 (0), .int .i64 (0), .bool false, .slice none 0 0] 40 (0, 0))) :: (Asn.own b15_2 (.cells #[.int .i64 e8_b15_2_0, .int .i64 e8_b15_2_1, .int .i64 e8_b15_2_2, .int .i64 e8_b15_2_3, .int .i64 e8_b15_2_4, .int .i64 e8_b15_2_5, .int .i64 e8_b15_2_6, .bool e8_b15_2_7, .slice e8_b15_2_8a (List.length e8_b15_2_8x) e8_b15_2_8c] 40 (0, 0))) :: (Asn.own b14_12 (.cells #[.int .i64 e8_b14_12_0, .int .i64 e8_b14_12_1, .int .i64 e8_b14_12_2, .int .i64 e8_b14_12_3, .int .i64 e8_b14_12_4, .int .i64 e8_b14_12_5, .slice e8_b14_12_6a (List.length e8_b14_12_6x) e8_b14_12_6c, .int .i64 e8_b14_12_7, .int .i64 e8_b14_12_8] 35 (0, 0))) :: (RCacheA b6_0_1 y6_0.2) :: Γ) (fun w hw => (Sat.less (.take (.there (.there (.there (.there (.there .here))))) (.take .here (.take .here (.take .here (.take .here (.take .here (.take .here .refl))))))) hw)) (FindF_tr b6_0_0 e8_b6_0_0 (1 : Int) y29_1 hy29_1)) ?_
                          rintro _ _ ⟨a29_1_00, c29_1_00, rfl, rfl⟩
                          refine s_pure 135 (.tuple #[.agg #[.int .i64 y29_1.1.fwd, .int .i64 y29_1.1.back, .int .i64 y29_1.1.line, .int .i64 y29_1.1.used, .bool y29_1.1.dirty, .slice a29_1_00 (List.length y29_1.1.data) c29_1_00], .bool y29_1.2]) (by kernel_rfl) (by kernel_rfl) (fun _ => by kernel_rfl) ?_
                          refine s_pure 138 (.agg #[.int .i64 y29_1.1.fwd, .int .i64 y29_1.1.back, .int .i64 y29_1.1.line, .int .i64 y29_1.1.used, .bool y29_1.1.dirty, .slice a29_1_00 (List.length y29_1.1.data) c29_1_00]) (by kernel_rfl) (by kernel_rfl) (fun _ => by kernel_rfl) ?_
                          refine s_pure 139 (.bool y29_1.2) (by kernel_rfl) (by kernel_rfl) (fun _ => by kernel_rfl) ?_
                          refine s_step 23 (by kernel_rfl) (by kernel_rfl) (st_new (T := 32) (cells := #[.int .i64 (0), .int .i64 (0), .int .i64 (0), .int .i64 (0), .bool false, .slice none 0 0]) (fun a => .pointer (some a)) (fun _ => by kernel_rfl)) ?_
                          rintro _ _ ⟨b29_5, rfl, rfl⟩
                          refine s_do (by kernel_rfl) (by kernel_rfl) (st_store (off := 0) (vs := [.int .i64 y29_1.1.fwd, .int .i64 y29_1.1.back, .int .i64 y29_1.1.line, .int .i64 y29_1.1.used, .bool y29_1.1.dirty, .slice a29_1_00 (List.length y29_1.1.data) c29_1_00]) (c' := #[.int .i64 y29_1.1.fwd, .int .i64 y29_1.1.back, .int .i64 y29_1.1.line, .int .i64 y29_1.1.used, .bool y29_1.1.dirty, .slice a29_1_00 (List.length y29_1.1.data) c29_1_00]) (fun _ => by kernel_rfl) .here (by kernel_rfl) (by kernel_rfl) (by kernel_rfl)) ?_
                          rintro _ _ ⟨rfl, rfl⟩
                          refine s_pure 24 (.bool y29_1.2) (by kernel_rfl) (by kernel_rfl) (fun _ => by kernel_rfl) ?_
                          refine ops_end ?_
                          refine At.env [(3, .int .i64 data), (4, .bool e3_4), (5, .bool there), (13, .bool e2_13), (14, .pointer (some ⟨b6_0_0, 0, none⟩)), (17, .pointer (some ⟨b14_12, 0, none⟩)), (19, .pointer (some ⟨b15_2, 0, none⟩)), (20, .pointer (some ⟨b16_1, 0, none⟩)), (21, .int .i64 e8_21), (22, .int .i64 (1)), (24, .bool y29_1.2)] ⟨by kernel_rfl, by kernel_rfl, by kernel_rfl, by kernel_rfl, by kernel_rfl, by kernel_rfl, by kernel_rfl, by kernel_rfl, by kernel_rfl, by kernel_rfl, by kernel_rfl, trivial⟩ ?_
                          refine at_then_normal ?_
                          refine at_seq (x := C8 [1,1,1,1,1,1,1,1,1,1,1,1,1,1,0,1,0,1,1,0,1,0,1,0,1,0]) (y := C8 [1,1,1,1,1,1,1,1,1,1,1,1,1,1,0,1,0,1,1,0,1,0,1,0,1,1]) (by kernel_rfl) ?_
                          refine at_region (id := 30) 2 (by kernel_rfl) (by kernel_rfl) ?_
                          refine s_pure 140 (.bool y29_1.2) (by kernel_rfl) (by kernel_rfl) (fun _ => by kernel_rfl) ?_
                          refine s_pure 141 (.bool !y29_1.2) (by kernel_rfl) (by kernel_rfl) (fun _ => by kernel_rfl) ?_
                          refine ops_end ?_
                          refine At.env [(3, .int .i64 data), (4, .bool e3_4), (5, .bool there), (13, .bool e2_13), (14, .pointer (some ⟨b6_0_0, 0, none⟩)), (17, .pointer (some ⟨b14_12, 0, none⟩)), (19, .pointer (some ⟨b15_2, 0, none⟩)), (20, .pointer (some ⟨b16_1, 0, none⟩)), (21, .int .i64 e8_21), (22, .int .i64 (1)), (141, .bool !y29_1.2)] ⟨by kernel_rfl, by kernel_rfl, by kernel_rfl, by kernel_rfl, by kernel_rfl, by kernel_rfl, by kernel_rfl, by kernel_rfl, by kernel_rfl, by kernel_rfl, by kernel_rfl, trivial⟩ ?_
                          refine at_then_normal ?_
                          rcases Bool.eq_false_or_eq_true (!y29_1.2) with h33 | h33
                          · replace H := bifT H h33
                            refine at_true (t := !y29_1.2) (x := C8 [1,1,1,1,1,1,1,1,1,1,1,1,1,1,0,1,0,1,1,0,1,0,1,0,1,1,0]) (y := C8 [1,1,1,1,1,1,1,1,1,1,1,1,1,1,0,1,0,1,1,0,1,0,1,0,1,1,1]) (o := .tmp 141) (by kernel_rfl) (by kernel_rfl) (by kernel_rfl) h33 ?_
                            refine at_seq (x := C8 [1,1,1,1,1,1,1,1,1,1,1,1,1,1,0,1,0,1,1,0,1,0,1,0,1,1,0,0]) (y := C8 [1,1,1,1,1,1,1,1,1,1,1,1,1,1,0,1,0,1,1,0,1,0,1,0,1,1,0,1]) (by kernel_rfl) ?_
                            refine at_region (id := 31) 1 (by kernel_rfl) (by kernel_rfl) ?_
                            refine s_pure 12 (.bool false) (by kernel_rfl) (by kernel_rfl) (fun _ => by kernel_rfl) ?_
                            refine ops_end ?_
                            refine At.env [(12, .bool false)] ⟨by kernel_rfl, trivial⟩ ?_
                            refine at_then_normal ?_
                            refine at_ret (by kernel_rfl) ?_
                            refine at_then_ret ?_
                            refine at_then_ret ?_
                            refine at_then_ret ?_
                            obtain rfl := someE H
                            refine at_backR [.bool false] (Γ) (rs := [.tmp 12]) (by kernel_rfl) (.cons (.tmp (by kernel_rfl)) .nil) (fun w hw => (Sat.less (.drop .here (.drop .here (.drop .here (.drop .here (.drop .here (.drop .here (.drop .here (.drop .here (.drop .here .refl))))))))) hw)) ?_
                            exact ⟨rfl, rfl⟩
                          · replace H := bifF H h33
                            refine at_false (t := !y29_1.2) (x := C8 [1,1,1,1,1,1,1,1,1,1,1,1,1,1,0,1,0,1,1,0,1,0,1,0,1,1,0]) (y := C8 [1,1,1,1,1,1,1,1,1,1,1,1,1,1,0,1,0,1,1,0,1,0,1,0,1,1,1]) (o := .tmp 141) (by kernel_rfl) (by kernel_rfl) (by kernel_rfl) h33 ?_
                            refine at_skip (by kernel_rfl) ?_
                            refine at_then_normal ?_
                            refine at_seq (x := C8 [1,1,1,1,1,1,1,1,1,1,1,1,1,1,0,1,0,1,1,0,1,0,1,1,0]) (y := C8 [1,1,1,1,1,1,1,1,1,1,1,1,1,1,0,1,0,1,1,0,1,0,1,1,1]) (by kernel_rfl) ?_
                            refine at_region (id := 32) 9 (by kernel_rfl) (by kernel_rfl) ?_
                            refine s_load 143 (.agg #[.int .i64 e8_b14_12_0, .int .i64 e8_b14_12_1, .int .i64 e8_b14_12_2, .int .i64 e8_b14_12_3, .int .i64 e8_b14_12_4, .int .i64 e8_b14_12_5, .slice e8_b14_12_6a (List.length e8_b14_12_6x) e8_b14_12_6c, .int .i64 e8_b14_12_7, .int .i64 e8_b14_12_8]) (by kernel_rfl) (by kernel_rfl) (loadN (off := 0) (vs := [.int .i64 e8_b14_12_0, .int .i64 e8_b14_12_1, .int .i64 e8_b14_12_2, .int .i64 e8_b14_12_3, .int .i64 e8_b14_12_4, .int .i64 e8_b14_12_5, .slice e8_b14_12_6a (List.length e8_b14_12_6x) e8_b14_12_6c, .int .i64 e8_b14_12_7, .int .i64 e8_b14_12_8]) 9 (fun _ => by kernel_rfl) (holds_own (.there (.there (.there (.there (.there (.there (.there .here)))))))) rfl (by exact ⟨rfl, rfl, rfl, rfl, rfl, rfl, rfl, rfl, rfl, trivial⟩)) ?_
                            refine s_pure 144 (.pointer (some ⟨b6_0_0, 0, none⟩)) (by kernel_rfl) (by kernel_rfl) (fun _ => by kernel_rfl) ?_
                            refine s_load 145 (.agg #[.int .i64 (8), .int .i64 (0), .int .i64 (0), .int .i64 (5), .int .i64 (1), .int .i64 (0), .int .i64 (0), .bool false, .slice none 0 0]) (by kernel_rfl) (by kernel_rfl) (loadN (off := 0) (vs := [.int .i64 (8), .int .i64 (0), .int .i64 (0), .int .i64 (5), .int .i64 (1), .int .i64 (0), .int .i64 (0), .bool false, .slice none 0 0]) 9 (fun _ => by kernel_rfl) (holds_own (.there (.there (.there (.there (.there .here)))))) rfl (by exact ⟨rfl, rfl, rfl, rfl, rfl, rfl, rfl, rfl, rfl, trivial⟩)) ?_
                            obtain ⟨y32_3, hy32_3, H⟩ := bindE H
                            refine s_call 146 30 #[.agg #[.int .i64 e8_b14_12_0, .int .i64 e8_b14_12_1, .int .i64 e8_b14_12_2, .int .i64 e8_b14_12_3, .int .i64 e8_b14_12_4, .int .i64 e8_b14_12_5, .slice e8_b14_12_6a (List.length e8_b14_12_6x) e8_b14_12_6c, .int .i64 e8_b14_12_7, .int .i64 e8_b14_12_8], .int .i64 (2), .pointer (some ⟨b6_0_0, 0, none⟩), .agg #[.int .i64 (8), .int .i64 (0), .int .i64 (0), .int .i64 (5), .int .i64 (1), .int .i64 (0), .int .i64 (0), .bool false, .slice none 0 0]] (by kernel_rfl) (by kernel_rfl) (fun _ => by kernel_rfl) (Tr.conv (Γ' := (ImmI e8_b14_12_6a e8_b14_12_6x) :: (CacheA b6_0_0 e8_b6_0_0) :: (ImmI e8_b14_12_6a e8_b14_12_6x) :: (Asn.own b29_5 (.cells #[.int .i64 y29_1.1.fwd, .int .i64 y29_1.1.back, .int .i64 y29_1.1.line, .int .i64 y29_1.1.used, .bool y29_1.1.dirty, .slice a29_1_00 (List.length y29_1.1.data) c29_1_00] 32 (0, 0))) :: (IntsA a29_1_00 c29_1_00 y29_1.1.data) :: (IntsA e8_b15_2_8a e8_b15_2_8c e8_b15_2_8x) :: (Asn.own b16_1 (.cells #[.int .i64 (8), .int .i64 (0), .int .i64 (0), .int .i64 (5), .int .i64 (1), .int .i64 (0), .int .i64 (0), .bool false, .slice none 0 0] 40 (0, 0))) :: (Asn.own b15_2 (.cells #[.int .i64 e8_b15_2_0, .int .i64 e8_b15_2_1, .int .i64 e8_b15_2_2, .int .i64 e8_b15_2_3, .int .i64 e8_b15_2_4, .int .i64 e8_b15_2_5, .int .i64 e8_b15_2_6, .bool e8_b15_2_7, .slice e8_b15_2_8a (List.length e8_b15_2_8x) e8_b15_2_8c] 40 (0, 0))) :: (Asn.own b14_12 (.cells #[.int .i64 e8_b14_12_0, .int .i64 e8_b14_12_1, .int .i64 e8_b14_12_2, .int .i64 e8_b14_12_3, .int .i64 e8_b14_12_4, .int .i64 e8_b14_12_5, .slice e8_b14_12_6a (List.length e8_b14_12_6x) e8_b14_12_6c, .int .i64 e8_b14_12_7, .int .i64 e8_b14_12_8] 35 (0, 0))) :: (RCacheA b6_0_1 y6_0.2) :: Γ) (fun w hw => (Sat.less (.take .here (.take (.there (.there (.there .here))) (.take .here (.take .here (.take .here (.take .here (.take .here (.take .here (.take .here (.take .here .refl)))))))))) (ImmR.dup (Sat.less (.take (.there (.there (.there (.there .here)))) (.take .here (.take .here (.take .here (.take .here (.take .here (.take .here (.take .here (.take .here .refl))))))))) hw)))) (RNextF_tr e8_b14_12_6a e8_b14_12_6c (⟨e8_b14_12_0, e8_b14_12_1, e8_b14_12_2, e8_b14_12_3, e8_b14_12_4, e8_b14_12_5, e8_b14_12_6x, e8_b14_12_7, e8_b14_12_8⟩ : DealS) (2 : Int) b6_0_0 e8_b6_0_0 none 0 (⟨8, 0, 0, 5, 1, 0, 0, false, ([] : List Int)⟩ : PktS) Reads.nil y32_3 hy32_3)) ?_
                            rintro _ _ ⟨a32_3_00, c32_3_00, rfl, rfl⟩
                            refine s_pure 142 (.tuple #[.agg #[.int .i64 y32_3.1.kind, .int .i64 y32_3.1.line, .int .i64 y32_3.1.id, .int .i64 y32_3.1.step, .int .i64 y32_3.1.state, .int .i64 y32_3.1.head, .slice a32_3_00 (List.length y32_3.1.data) c32_3_00, .int .i64 y32_3.1.next, .int .i64 y32_3.1.told], .bool y32_3.2.1]) (by kernel_rfl) (by kernel_rfl) (fun _ => by kernel_rfl) ?_
                            refine s_pure 147 (.agg #[.int .i64 y32_3.1.kind, .int .i64 y32_3.1.line, .int .i64 y32_3.1.id, .int .i64 y32_3.1.step, .int .i64 y32_3.1.state, .int .i64 y32_3.1.head, .slice a32_3_00 (List.length y32_3.1.data) c32_3_00, .int .i64 y32_3.1.next, .int .i64 y32_3.1.told]) (by kernel_rfl) (by kernel_rfl) (fun _ => by kernel_rfl) ?_
                            refine s_pure 148 (.bool y32_3.2.1) (by kernel_rfl) (by kernel_rfl) (fun _ => by kernel_rfl) ?_
                            refine s_do (by kernel_rfl) (by kernel_rfl) (st_store (off := 0) (vs := [.int .i64 y32_3.1.kind, .int .i64 y32_3.1.line, .int .i64 y32_3.1.id, .int .i64 y32_3.1.step, .int .i64 y32_3.1.state, .int .i64 y32_3.1.head, .slice a32_3_00 (List.length y32_3.1.data) c32_3_00, .int .i64 y32_3.1.next, .int .i64 y32_3.1.told]) (c' := #[.int .i64 y32_3.1.kind, .int .i64 y32_3.1.line, .int .i64 y32_3.1.id, .int .i64 y32_3.1.step, .int .i64 y32_3.1.state, .int .i64 y32_3.1.head, .slice a32_3_00 (List.length y32_3.1.data) c32_3_00, .int .i64 y32_3.1.next, .int .i64 y32_3.1.told]) (fun _ => by kernel_rfl) (.there (.there (.there (.there (.there (.there (.there (.there .here)))))))) (by kernel_rfl) (by kernel_rfl) (by kernel_rfl)) ?_
                            rintro _ _ ⟨rfl, rfl⟩
                            refine s_pure 18 (.bool y32_3.2.1) (by kernel_rfl) (by kernel_rfl) (fun _ => by kernel_rfl) ?_
                            refine ops_end ?_
                            refine At.env [(3, .int .i64 data), (4, .bool e3_4), (5, .bool there), (13, .bool e2_13), (14, .pointer (some ⟨b6_0_0, 0, none⟩)), (17, .pointer (some ⟨b14_12, 0, none⟩)), (18, .bool y32_3.2.1), (19, .pointer (some ⟨b15_2, 0, none⟩)), (20, .pointer (some ⟨b16_1, 0, none⟩)), (21, .int .i64 e8_21), (22, .int .i64 (1))] ⟨by kernel_rfl, by kernel_rfl, by kernel_rfl, by kernel_rfl, by kernel_rfl, by kernel_rfl, by kernel_rfl, by kernel_rfl, by kernel_rfl, by kernel_rfl, by kernel_rfl, trivial⟩ ?_
                            refine at_then_normal ?_
                            refine at_region (id := 33) 3 (by kernel_rfl) (by kernel_rfl) ?_
                            refine s_load 149 (.agg #[.int .i64 y32_3.1.kind, .int .i64 y32_3.1.line, .int .i64 y32_3.1.id, .int .i64 y32_3.1.step, .int .i64 y32_3.1.state, .int .i64 y32_3.1.head, .slice a32_3_00 (List.length y32_3.1.data) c32_3_00, .int .i64 y32_3.1.next, .int .i64 y32_3.1.told]) (by kernel_rfl) (by kernel_rfl) (loadN (off := 0) (vs := [.int .i64 y32_3.1.kind, .int .i64 y32_3.1.line, .int .i64 y32_3.1.id, .int .i64 y32_3.1.step, .int .i64 y32_3.1.state, .int .i64 y32_3.1.head, .slice a32_3_00 (List.length y32_3.1.data) c32_3_00, .int .i64 y32_3.1.next, .int .i64 y32_3.1.told]) 9 (fun _ => by kernel_rfl) (holds_own .here) rfl (by exact ⟨rfl, rfl, rfl, rfl, rfl, rfl, rfl, rfl, rfl, trivial⟩)) ?_
                            obtain ⟨y33_1, hy33_1, H⟩ := bindE H
                            refine s_call 150 26 #[.agg #[.int .i64 y32_3.1.kind, .int .i64 y32_3.1.line, .int .i64 y32_3.1.id, .int .i64 y32_3.1.step, .int .i64 y32_3.1.state, .int .i64 y32_3.1.head, .slice a32_3_00 (List.length y32_3.1.data) c32_3_00, .int .i64 y32_3.1.next, .int .i64 y32_3.1.told], .int .i64 (2), .int .i64 (0)] (by kernel_rfl) (by kernel_rfl) (fun _ => by kernel_rfl) (DAskF_tr a32_3_00 c32_3_00 y32_3.1 (2 : Int) (0 : Int) (ImmR.reads (k := 1) (.there .here)) y33_1 hy33_1) ?_
                            rintro _ _ ⟨a33_1_00, c33_1_00, rfl, rfl⟩
                            refine s_do (by kernel_rfl) (by kernel_rfl) (st_store (off := 0) (vs := [.int .i64 y33_1.kind, .int .i64 y33_1.src, .int .i64 y33_1.dst, .int .i64 y33_1.id, .int .i64 y33_1.line, .int .i64 y33_1.ptr, .int .i64 y33_1.state, .bool y33_1.flag, .slice a33_1_00 (List.length y33_1.data) c33_1_00]) (c' := #[.int .i64 y33_1.kind, .int .i64 y33_1.src, .int .i64 y33_1.dst, .int .i64 y33_1.id, .int .i64 y33_1.line, .int .i64 y33_1.ptr, .int .i64 y33_1.state, .bool y33_1.flag, .slice a33_1_00 (List.length y33_1.data) c33_1_00]) (fun _ => by kernel_rfl) (.there (.there (.there (.there (.there (.there (.there (.there (.there .here))))))))) (by kernel_rfl) (by kernel_rfl) (by kernel_rfl)) ?_
                            rintro _ _ ⟨rfl, rfl⟩
                            refine ops_end ?_
                            refine At.env [(3, .int .i64 data), (4, .bool e3_4), (5, .bool there), (13, .bool e2_13), (14, .pointer (some ⟨b6_0_0, 0, none⟩)), (17, .pointer (some ⟨b14_12, 0, none⟩)), (18, .bool y32_3.2.1), (19, .pointer (some ⟨b15_2, 0, none⟩)), (20, .pointer (some ⟨b16_1, 0, none⟩)), (21, .int .i64 e8_21), (22, .int .i64 (1))] ⟨by kernel_rfl, by kernel_rfl, by kernel_rfl, by kernel_rfl, by kernel_rfl, by kernel_rfl, by kernel_rfl, by kernel_rfl, by kernel_rfl, by kernel_rfl, by kernel_rfl, trivial⟩ ?_
                            refine at_then_normal ?_
                            refine at_seq (x := C8 [1,1,1,1,1,1,1,1,1,1,1,1,1,1,0,1,0,1,1,1,0]) (y := C8 [1,1,1,1,1,1,1,1,1,1,1,1,1,1,0,1,0,1,1,1,1]) (by kernel_rfl) ?_
                            refine at_region (id := 34) 1 (by kernel_rfl) (by kernel_rfl) ?_
                            refine s_pure 151 (.bool e2_13) (by kernel_rfl) (by kernel_rfl) (fun _ => by kernel_rfl) ?_
                            refine ops_end ?_
                            refine At.env [(3, .int .i64 data), (4, .bool e3_4), (5, .bool there), (14, .pointer (some ⟨b6_0_0, 0, none⟩)), (17, .pointer (some ⟨b14_12, 0, none⟩)), (18, .bool y32_3.2.1), (19, .pointer (some ⟨b15_2, 0, none⟩)), (20, .pointer (some ⟨b16_1, 0, none⟩)), (21, .int .i64 e8_21), (22, .int .i64 (1)), (151, .bool e2_13)] ⟨by kernel_rfl, by kernel_rfl, by kernel_rfl, by kernel_rfl, by kernel_rfl, by kernel_rfl, by kernel_rfl, by kernel_rfl, by kernel_rfl, by kernel_rfl, by kernel_rfl, trivial⟩ ?_
                            refine at_then_normal ?_
                            rcases Bool.eq_false_or_eq_true (e2_13) with h34 | h34
                            · replace H := bifT H h34
                              refine at_true (t := e2_13) (x := C8 [1,1,1,1,1,1,1,1,1,1,1,1,1,1,0,1,0,1,1,1,1,0]) (y := C8 [1,1,1,1,1,1,1,1,1,1,1,1,1,1,0,1,0,1,1,1,1,1]) (o := .tmp 151) (by kernel_rfl) (by kernel_rfl) (by kernel_rfl) h34 ?_
                              refine at_region (id := 35) 1 (by kernel_rfl) (by kernel_rfl) ?_
                              refine s_pure 22 (.int .i64 (0)) (by kernel_rfl) (by kernel_rfl) (fun _ => by kernel_rfl) ?_
                              refine ops_end ?_
                              refine At.env [(3, .int .i64 data), (4, .bool e3_4), (5, .bool there), (14, .pointer (some ⟨b6_0_0, 0, none⟩)), (17, .pointer (some ⟨b14_12, 0, none⟩)), (18, .bool y32_3.2.1), (19, .pointer (some ⟨b15_2, 0, none⟩)), (20, .pointer (some ⟨b16_1, 0, none⟩)), (21, .int .i64 e8_21), (22, .int .i64 (0))] ⟨by kernel_rfl, by kernel_rfl, by kernel_rfl, by kernel_rfl, by kernel_rfl, by kernel_rfl, by kernel_rfl, by kernel_rfl, by kernel_rfl, by kernel_rfl, trivial⟩ ?_
                              refine at_round_normal ?_
                              exact at_join_mk [(3, .int .i64 data), (4, .bool e3_4), (5, .bool there), (14, .pointer (some ⟨b6_0_0, 0, none⟩)), (17, .pointer (some ⟨b14_12, 0, none⟩)), (18, .bool y32_3.2.1), (19, .pointer (some ⟨b15_2, 0, none⟩)), (20, .pointer (some ⟨b16_1, 0, none⟩)), (21, .int .i64 e8_21), (22, .int .i64 0)] ((IntsA a33_1_00 c33_1_00 y33_1.data) :: (ImmI a32_3_00 y32_3.1.data) :: (Asn.own b16_1 (.cells #[.int .i64 (8), .int .i64 (0), .int .i64 (0), .int .i64 (5), .int .i64 (1), .int .i64 (0), .int .i64 (0), .bool false, .slice none 0 0] 40 (0, 0))) :: (Asn.own b15_2 (.cells #[.int .i64 y33_1.kind, .int .i64 y33_1.src, .int .i64 y33_1.dst, .int .i64 y33_1.id, .int .i64 y33_1.line, .int .i64 y33_1.ptr, .int .i64 y33_1.state, .bool y33_1.flag, .slice a33_1_00 (List.length y33_1.data) c33_1_00] 40 (0, 0))) :: (Asn.own b14_12 (.cells #[.int .i64 y32_3.1.kind, .int .i64 y32_3.1.line, .int .i64 y32_3.1.id, .int .i64 y32_3.1.step, .int .i64 y32_3.1.state, .int .i64 y32_3.1.head, .slice a32_3_00 (List.length y32_3.1.data) c32_3_00, .int .i64 y32_3.1.next, .int .i64 y32_3.1.told] 35 (0, 0))) :: (CacheA b6_0_0 y32_3.2.2) :: (RCacheA b6_0_1 y6_0.2) :: Γ) ⟨by kernel_rfl, by kernel_rfl, by kernel_rfl, by kernel_rfl, by kernel_rfl, by kernel_rfl, by kernel_rfl, by kernel_rfl, by kernel_rfl, by kernel_rfl, trivial⟩ (fun w hw => (Sat.less (.take (.there .here) (.take (.there (.there .here)) (.take (.there (.there (.there (.there (.there (.there (.there .here))))))) (.take .here (.take .here (.take .here (.take (.there (.there (.there (.there .here)))) (.drop .here (.drop .here (.drop .here (.drop .here .refl))))))))))) hw)) ⟨y32_3.2.1, e8_21, 0, y33_1.kind, y33_1.src, y33_1.dst, y33_1.id, y33_1.line, y33_1.ptr, y33_1.state, y33_1.flag, y33_1.data, y32_3.1.kind, y32_3.1.line, y32_3.1.id, y32_3.1.step, y32_3.1.state, y32_3.1.head, y32_3.1.data, y32_3.1.next, y32_3.1.told, y32_3.2.2, a33_1_00, c33_1_00, a32_3_00, c32_3_00, H, rfl, rfl⟩
                            · replace H := bifF H h34
                              refine at_false (t := e2_13) (x := C8 [1,1,1,1,1,1,1,1,1,1,1,1,1,1,0,1,0,1,1,1,1,0]) (y := C8 [1,1,1,1,1,1,1,1,1,1,1,1,1,1,0,1,0,1,1,1,1,1]) (o := .tmp 151) (by kernel_rfl) (by kernel_rfl) (by kernel_rfl) h34 ?_
                              refine at_skip (by kernel_rfl) ?_
                              refine at_round_normal ?_
                              exact at_join_mk [(3, .int .i64 data), (4, .bool e3_4), (5, .bool there), (14, .pointer (some ⟨b6_0_0, 0, none⟩)), (17, .pointer (some ⟨b14_12, 0, none⟩)), (18, .bool y32_3.2.1), (19, .pointer (some ⟨b15_2, 0, none⟩)), (20, .pointer (some ⟨b16_1, 0, none⟩)), (21, .int .i64 e8_21), (22, .int .i64 1)] ((IntsA a33_1_00 c33_1_00 y33_1.data) :: (ImmI a32_3_00 y32_3.1.data) :: (Asn.own b16_1 (.cells #[.int .i64 (8), .int .i64 (0), .int .i64 (0), .int .i64 (5), .int .i64 (1), .int .i64 (0), .int .i64 (0), .bool false, .slice none 0 0] 40 (0, 0))) :: (Asn.own b15_2 (.cells #[.int .i64 y33_1.kind, .int .i64 y33_1.src, .int .i64 y33_1.dst, .int .i64 y33_1.id, .int .i64 y33_1.line, .int .i64 y33_1.ptr, .int .i64 y33_1.state, .bool y33_1.flag, .slice a33_1_00 (List.length y33_1.data) c33_1_00] 40 (0, 0))) :: (Asn.own b14_12 (.cells #[.int .i64 y32_3.1.kind, .int .i64 y32_3.1.line, .int .i64 y32_3.1.id, .int .i64 y32_3.1.step, .int .i64 y32_3.1.state, .int .i64 y32_3.1.head, .slice a32_3_00 (List.length y32_3.1.data) c32_3_00, .int .i64 y32_3.1.next, .int .i64 y32_3.1.told] 35 (0, 0))) :: (CacheA b6_0_0 y32_3.2.2) :: (RCacheA b6_0_1 y6_0.2) :: Γ) ⟨by kernel_rfl, by kernel_rfl, by kernel_rfl, by kernel_rfl, by kernel_rfl, by kernel_rfl, by kernel_rfl, by kernel_rfl, by kernel_rfl, by kernel_rfl, trivial⟩ (fun w hw => (Sat.less (.take (.there .here) (.take (.there (.there .here)) (.take (.there (.there (.there (.there (.there (.there (.there .here))))))) (.take .here (.take .here (.take .here (.take (.there (.there (.there (.there .here)))) (.drop .here (.drop .here (.drop .here (.drop .here .refl))))))))))) hw)) ⟨y32_3.2.1, e8_21, 1, y33_1.kind, y33_1.src, y33_1.dst, y33_1.id, y33_1.line, y33_1.ptr, y33_1.state, y33_1.flag, y33_1.data, y32_3.1.kind, y32_3.1.line, y32_3.1.id, y32_3.1.step, y32_3.1.state, y32_3.1.head, y32_3.1.data, y32_3.1.next, y32_3.1.told, y32_3.2.2, a33_1_00, c33_1_00, a32_3_00, c32_3_00, H, rfl, rfl⟩
                      · refine at_region (id := 27) 19 (by kernel_rfl) (by kernel_rfl) ?_
                        refine s_pure 116 (.bool e8_18) (by kernel_rfl) (by kernel_rfl) (fun _ => by kernel_rfl) ?_
                        refine s_pure 117 (.bool !e8_18) (by kernel_rfl) (by kernel_rfl) (fun _ => by kernel_rfl) ?_
                        rcases Bool.eq_false_or_eq_true (!e8_18) with h35 | h35
                        · replace H := bifT H h35
                          refine s_pure 118 (.bool true) (by kernel_rfl) (by kernel_rfl) (run_eq (v := .bool (!e8_18)) (fun _ => by kernel_rfl) (congrArg Value.bool h35)) ?_
                          refine s_pass 119 (by kernel_rfl) (by kernel_rfl) ?_
                          refine s_pass 120 (by kernel_rfl) (by kernel_rfl) ?_
                          refine s_pass 121 (by kernel_rfl) (by kernel_rfl) ?_
                          refine s_pure 122 (.bool true) (by kernel_rfl) (by kernel_rfl) (fun _ => by kernel_rfl) ?_
                          refine s_pure 123 (.bool true) (by kernel_rfl) (by kernel_rfl) (fun _ => by kernel_rfl) ?_
                          refine s_pass 124 (by kernel_rfl) (by kernel_rfl) ?_
                          refine s_pass 125 (by kernel_rfl) (by kernel_rfl) ?_
                          refine s_pass 126 (by kernel_rfl) (by kernel_rfl) ?_
                          refine s_pass 127 (by kernel_rfl) (by kernel_rfl) ?_
                          refine s_pure 128 (.bool true) (by kernel_rfl) (by kernel_rfl) (fun _ => by kernel_rfl) ?_
                          refine s_pure 129 (.bool true) (by kernel_rfl) (by kernel_rfl) (fun _ => by kernel_rfl) ?_
                          refine s_pass 130 (by kernel_rfl) (by kernel_rfl) ?_
                          refine s_pass 131 (by kernel_rfl) (by kernel_rfl) ?_
                          refine s_pass 132 (by kernel_rfl) (by kernel_rfl) ?_
                          refine s_pass 133 (by kernel_rfl) (by kernel_rfl) ?_
                          refine s_pure 134 (.bool true) (by kernel_rfl) (by kernel_rfl) (fun _ => by kernel_rfl) ?_
                          refine ops_end ?_
                          refine At.env [(3, .int .i64 data), (4, .bool e3_4), (5, .bool there), (13, .bool e2_13), (14, .pointer (some ⟨b6_0_0, 0, none⟩)), (17, .pointer (some ⟨b14_12, 0, none⟩)), (19, .pointer (some ⟨b15_2, 0, none⟩)), (20, .pointer (some ⟨b16_1, 0, none⟩)), (21, .int .i64 e8_21), (22, .int .i64 (1)), (134, .bool true)] ⟨by kernel_rfl, by kernel_rfl, by kernel_rfl, by kernel_rfl, by kernel_rfl, by kernel_rfl, by kernel_rfl, by kernel_rfl, by kernel_rfl, by kernel_rfl, by kernel_rfl, trivial⟩ ?_
                          refine at_round_normal ?_
                          exact at_join_mk [(3, .int .i64 data), (4, .bool e3_4), (5, .bool there), (13, .bool e2_13), (14, .pointer (some ⟨b6_0_0, 0, none⟩)), (17, .pointer (some ⟨b14_12, 0, none⟩)), (19, .pointer (some ⟨b15_2, 0, none⟩)), (20, .pointer (some ⟨b16_1, 0, none⟩)), (21, .int .i64 e8_21), (22, .int .i64 (1)), (134, .bool true)] ((IntsA e8_b15_2_8a e8_b15_2_8c e8_b15_2_8x) :: (ImmI e8_b14_12_6a e8_b14_12_6x) :: (Asn.own b16_1 (.cells #[.int .i64 (8), .int .i64 (0), .int .i64 (0), .int .i64 (5), .int .i64 (1), .int .i64 (0), .int .i64 (0), .bool false, .slice none 0 0] 40 (0, 0))) :: (Asn.own b15_2 (.cells #[.int .i64 e8_b15_2_0, .int .i64 e8_b15_2_1, .int .i64 e8_b15_2_2, .int .i64 e8_b15_2_3, .int .i64 e8_b15_2_4, .int .i64 e8_b15_2_5, .int .i64 e8_b15_2_6, .bool e8_b15_2_7, .slice e8_b15_2_8a (List.length e8_b15_2_8x) e8_b15_2_8c] 40 (0, 0))) :: (Asn.own b14_12 (.cells #[.int .i64 e8_b14_12_0, .int .i64 e8_b14_12_1, .int .i64 e8_b14_12_2, .int .i64 e8_b14_12_3, .int .i64 e8_b14_12_4, .int .i64 e8_b14_12_5, .slice e8_b14_12_6a (List.length e8_b14_12_6x) e8_b14_12_6c, .int .i64 e8_b14_12_7, .int .i64 e8_b14_12_8] 35 (0, 0))) :: (CacheA b6_0_0 e8_b6_0_0) :: (RCacheA b6_0_1 y6_0.2) :: Γ) ⟨by kernel_rfl, by kernel_rfl, by kernel_rfl, by kernel_rfl, by kernel_rfl, by kernel_rfl, by kernel_rfl, by kernel_rfl, by kernel_rfl, by kernel_rfl, by kernel_rfl, trivial⟩ (fun w hw => (Sat.less (.take .here (.take .here (.take .here (.take .here (.take .here (.take .here (.take .here .refl))))))) hw)) ⟨true, H, rfl, rfl⟩
                        · replace H := bifF H h35
                          refine s_pure 118 (.bool false) (by kernel_rfl) (by kernel_rfl) (run_eq (v := .bool (!e8_18)) (fun _ => by kernel_rfl) (congrArg Value.bool h35)) ?_
                          refine s_pure 119 (.pointer (some ⟨b15_2, 0, none⟩)) (by kernel_rfl) (by kernel_rfl) (fun _ => by kernel_rfl) ?_
                          refine s_load 120 (.int .i64 e8_b15_2_0) (by kernel_rfl) (by kernel_rfl) (load1 (off := 0) (fun _ => by kernel_rfl) (holds_own (.there (.there (.there .here)))) (by kernel_rfl)) ?_
                          refine s_pure 121 (.bool (!(decide (e8_b15_2_0 = (5 : Int))))) (by kernel_rfl) (by kernel_rfl) (fun _ => by kernel_rfl) ?_
                          refine s_pure 122 (.bool (!(decide (e8_b15_2_0 = (5 : Int))))) (by kernel_rfl) (by kernel_rfl) (fun _ => by kernel_rfl) ?_
                          rcases Bool.eq_false_or_eq_true (!(decide (e8_b15_2_0 = (5 : Int)))) with h36 | h36
                          · replace H := bifT H h36
                            refine s_pure 123 (.bool true) (by kernel_rfl) (by kernel_rfl) (run_eq (v := .bool (!(decide (e8_b15_2_0 = (5 : Int))))) (fun _ => by kernel_rfl) (congrArg Value.bool h36)) ?_
                            refine s_pass 124 (by kernel_rfl) (by kernel_rfl) ?_
                            refine s_pass 125 (by kernel_rfl) (by kernel_rfl) ?_
                            refine s_pass 126 (by kernel_rfl) (by kernel_rfl) ?_
                            refine s_pass 127 (by kernel_rfl) (by kernel_rfl) ?_
                            refine s_pure 128 (.bool true) (by kernel_rfl) (by kernel_rfl) (fun _ => by kernel_rfl) ?_
                            refine s_pure 129 (.bool true) (by kernel_rfl) (by kernel_rfl) (fun _ => by kernel_rfl) ?_
                            refine s_pass 130 (by kernel_rfl) (by kernel_rfl) ?_
                            refine s_pass 131 (by kernel_rfl) (by kernel_rfl) ?_
                            refine s_pass 132 (by kernel_rfl) (by kernel_rfl) ?_
                            refine s_pass 133 (by kernel_rfl) (by kernel_rfl) ?_
                            refine s_pure 134 (.bool true) (by kernel_rfl) (by kernel_rfl) (fun _ => by kernel_rfl) ?_
                            refine ops_end ?_
                            refine At.env [(3, .int .i64 data), (4, .bool e3_4), (5, .bool there), (13, .bool e2_13), (14, .pointer (some ⟨b6_0_0, 0, none⟩)), (17, .pointer (some ⟨b14_12, 0, none⟩)), (19, .pointer (some ⟨b15_2, 0, none⟩)), (20, .pointer (some ⟨b16_1, 0, none⟩)), (21, .int .i64 e8_21), (22, .int .i64 (1)), (134, .bool true)] ⟨by kernel_rfl, by kernel_rfl, by kernel_rfl, by kernel_rfl, by kernel_rfl, by kernel_rfl, by kernel_rfl, by kernel_rfl, by kernel_rfl, by kernel_rfl, by kernel_rfl, trivial⟩ ?_
                            refine at_round_normal ?_
                            exact at_join_mk [(3, .int .i64 data), (4, .bool e3_4), (5, .bool there), (13, .bool e2_13), (14, .pointer (some ⟨b6_0_0, 0, none⟩)), (17, .pointer (some ⟨b14_12, 0, none⟩)), (19, .pointer (some ⟨b15_2, 0, none⟩)), (20, .pointer (some ⟨b16_1, 0, none⟩)), (21, .int .i64 e8_21), (22, .int .i64 (1)), (134, .bool true)] ((IntsA e8_b15_2_8a e8_b15_2_8c e8_b15_2_8x) :: (ImmI e8_b14_12_6a e8_b14_12_6x) :: (Asn.own b16_1 (.cells #[.int .i64 (8), .int .i64 (0), .int .i64 (0), .int .i64 (5), .int .i64 (1), .int .i64 (0), .int .i64 (0), .bool false, .slice none 0 0] 40 (0, 0))) :: (Asn.own b15_2 (.cells #[.int .i64 e8_b15_2_0, .int .i64 e8_b15_2_1, .int .i64 e8_b15_2_2, .int .i64 e8_b15_2_3, .int .i64 e8_b15_2_4, .int .i64 e8_b15_2_5, .int .i64 e8_b15_2_6, .bool e8_b15_2_7, .slice e8_b15_2_8a (List.length e8_b15_2_8x) e8_b15_2_8c] 40 (0, 0))) :: (Asn.own b14_12 (.cells #[.int .i64 e8_b14_12_0, .int .i64 e8_b14_12_1, .int .i64 e8_b14_12_2, .int .i64 e8_b14_12_3, .int .i64 e8_b14_12_4, .int .i64 e8_b14_12_5, .slice e8_b14_12_6a (List.length e8_b14_12_6x) e8_b14_12_6c, .int .i64 e8_b14_12_7, .int .i64 e8_b14_12_8] 35 (0, 0))) :: (CacheA b6_0_0 e8_b6_0_0) :: (RCacheA b6_0_1 y6_0.2) :: Γ) ⟨by kernel_rfl, by kernel_rfl, by kernel_rfl, by kernel_rfl, by kernel_rfl, by kernel_rfl, by kernel_rfl, by kernel_rfl, by kernel_rfl, by kernel_rfl, by kernel_rfl, trivial⟩ (fun w hw => (Sat.less (.take .here (.take .here (.take .here (.take .here (.take .here (.take .here (.take .here .refl))))))) hw)) ⟨true, H, rfl, rfl⟩
                          · replace H := bifF H h36
                            refine s_pure 123 (.bool false) (by kernel_rfl) (by kernel_rfl) (run_eq (v := .bool (!(decide (e8_b15_2_0 = (5 : Int))))) (fun _ => by kernel_rfl) (congrArg Value.bool h36)) ?_
                            refine s_pure 124 (.pointer (some ⟨b15_2, 2, none⟩)) (by kernel_rfl) (by kernel_rfl) (fun _ => by kernel_rfl) ?_
                            refine s_load 125 (.int .i64 e8_b15_2_2) (by kernel_rfl) (by kernel_rfl) (load1 (off := 2) (fun _ => by kernel_rfl) (holds_own (.there (.there (.there .here)))) (by kernel_rfl)) ?_
                            refine s_pure 126 (.int .i64 e0_0) (by kernel_rfl) (by kernel_rfl) (fun _ => by kernel_rfl) ?_
                            refine s_pure 127 (.bool (!(decide (e8_b15_2_2 = e0_0)))) (by kernel_rfl) (by kernel_rfl) (fun _ => by kernel_rfl) ?_
                            refine s_pure 128 (.bool (!(decide (e8_b15_2_2 = e0_0)))) (by kernel_rfl) (by kernel_rfl) (fun _ => by kernel_rfl) ?_
                            rcases Bool.eq_false_or_eq_true (!(decide (e8_b15_2_2 = e0_0))) with h37 | h37
                            · replace H := bifT H h37
                              refine s_pure 129 (.bool true) (by kernel_rfl) (by kernel_rfl) (run_eq (v := .bool (!(decide (e8_b15_2_2 = e0_0)))) (fun _ => by kernel_rfl) (congrArg Value.bool h37)) ?_
                              refine s_pass 130 (by kernel_rfl) (by kernel_rfl) ?_
                              refine s_pass 131 (by kernel_rfl) (by kernel_rfl) ?_
                              refine s_pass 132 (by kernel_rfl) (by kernel_rfl) ?_
                              refine s_pass 133 (by kernel_rfl) (by kernel_rfl) ?_
                              refine s_pure 134 (.bool true) (by kernel_rfl) (by kernel_rfl) (fun _ => by kernel_rfl) ?_
                              refine ops_end ?_
                              refine At.env [(3, .int .i64 data), (4, .bool e3_4), (5, .bool there), (13, .bool e2_13), (14, .pointer (some ⟨b6_0_0, 0, none⟩)), (17, .pointer (some ⟨b14_12, 0, none⟩)), (19, .pointer (some ⟨b15_2, 0, none⟩)), (20, .pointer (some ⟨b16_1, 0, none⟩)), (21, .int .i64 e8_21), (22, .int .i64 (1)), (134, .bool true)] ⟨by kernel_rfl, by kernel_rfl, by kernel_rfl, by kernel_rfl, by kernel_rfl, by kernel_rfl, by kernel_rfl, by kernel_rfl, by kernel_rfl, by kernel_rfl, by kernel_rfl, trivial⟩ ?_
                              refine at_round_normal ?_
                              exact at_join_mk [(3, .int .i64 data), (4, .bool e3_4), (5, .bool there), (13, .bool e2_13), (14, .pointer (some ⟨b6_0_0, 0, none⟩)), (17, .pointer (some ⟨b14_12, 0, none⟩)), (19, .pointer (some ⟨b15_2, 0, none⟩)), (20, .pointer (some ⟨b16_1, 0, none⟩)), (21, .int .i64 e8_21), (22, .int .i64 (1)), (134, .bool true)] ((IntsA e8_b15_2_8a e8_b15_2_8c e8_b15_2_8x) :: (ImmI e8_b14_12_6a e8_b14_12_6x) :: (Asn.own b16_1 (.cells #[.int .i64 (8), .int .i64 (0), .int .i64 (0), .int .i64 (5), .int .i64 (1), .int .i64 (0), .int .i64 (0), .bool false, .slice none 0 0] 40 (0, 0))) :: (Asn.own b15_2 (.cells #[.int .i64 e8_b15_2_0, .int .i64 e8_b15_2_1, .int .i64 e8_b15_2_2, .int .i64 e8_b15_2_3, .int .i64 e8_b15_2_4, .int .i64 e8_b15_2_5, .int .i64 e8_b15_2_6, .bool e8_b15_2_7, .slice e8_b15_2_8a (List.length e8_b15_2_8x) e8_b15_2_8c] 40 (0, 0))) :: (Asn.own b14_12 (.cells #[.int .i64 e8_b14_12_0, .int .i64 e8_b14_12_1, .int .i64 e8_b14_12_2, .int .i64 e8_b14_12_3, .int .i64 e8_b14_12_4, .int .i64 e8_b14_12_5, .slice e8_b14_12_6a (List.length e8_b14_12_6x) e8_b14_12_6c, .int .i64 e8_b14_12_7, .int .i64 e8_b14_12_8] 35 (0, 0))) :: (CacheA b6_0_0 e8_b6_0_0) :: (RCacheA b6_0_1 y6_0.2) :: Γ) ⟨by kernel_rfl, by kernel_rfl, by kernel_rfl, by kernel_rfl, by kernel_rfl, by kernel_rfl, by kernel_rfl, by kernel_rfl, by kernel_rfl, by kernel_rfl, by kernel_rfl, trivial⟩ (fun w hw => (Sat.less (.take .here (.take .here (.take .here (.take .here (.take .here (.take .here (.take .here .refl))))))) hw)) ⟨true, H, rfl, rfl⟩
                            · replace H := bifF H h37
                              refine s_pure 129 (.bool false) (by kernel_rfl) (by kernel_rfl) (run_eq (v := .bool (!(decide (e8_b15_2_2 = e0_0)))) (fun _ => by kernel_rfl) (congrArg Value.bool h37)) ?_
                              refine s_pure 130 (.pointer (some ⟨b15_2, 5, none⟩)) (by kernel_rfl) (by kernel_rfl) (fun _ => by kernel_rfl) ?_
                              refine s_load 131 (.int .i64 e8_b15_2_5) (by kernel_rfl) (by kernel_rfl) (load1 (off := 5) (fun _ => by kernel_rfl) (holds_own (.there (.there (.there .here)))) (by kernel_rfl)) ?_
                              refine s_pure 132 (.int .i64 e0_1) (by kernel_rfl) (by kernel_rfl) (fun _ => by kernel_rfl) ?_
                              refine s_pure 133 (.bool (!(decide (e8_b15_2_5 = e0_1)))) (by kernel_rfl) (by kernel_rfl) (fun _ => by kernel_rfl) ?_
                              refine s_pure 134 (.bool (!(decide (e8_b15_2_5 = e0_1)))) (by kernel_rfl) (by kernel_rfl) (fun _ => by kernel_rfl) ?_
                              refine ops_end ?_
                              refine At.env [(3, .int .i64 data), (4, .bool e3_4), (5, .bool there), (13, .bool e2_13), (14, .pointer (some ⟨b6_0_0, 0, none⟩)), (17, .pointer (some ⟨b14_12, 0, none⟩)), (19, .pointer (some ⟨b15_2, 0, none⟩)), (20, .pointer (some ⟨b16_1, 0, none⟩)), (21, .int .i64 e8_21), (22, .int .i64 (1)), (134, .bool (!(decide (e8_b15_2_5 = e0_1))))] ⟨by kernel_rfl, by kernel_rfl, by kernel_rfl, by kernel_rfl, by kernel_rfl, by kernel_rfl, by kernel_rfl, by kernel_rfl, by kernel_rfl, by kernel_rfl, by kernel_rfl, trivial⟩ ?_
                              refine at_round_normal ?_
                              exact at_join_mk [(3, .int .i64 data), (4, .bool e3_4), (5, .bool there), (13, .bool e2_13), (14, .pointer (some ⟨b6_0_0, 0, none⟩)), (17, .pointer (some ⟨b14_12, 0, none⟩)), (19, .pointer (some ⟨b15_2, 0, none⟩)), (20, .pointer (some ⟨b16_1, 0, none⟩)), (21, .int .i64 e8_21), (22, .int .i64 (1)), (134, .bool (!(decide (e8_b15_2_5 = e0_1))))] ((IntsA e8_b15_2_8a e8_b15_2_8c e8_b15_2_8x) :: (ImmI e8_b14_12_6a e8_b14_12_6x) :: (Asn.own b16_1 (.cells #[.int .i64 (8), .int .i64 (0), .int .i64 (0), .int .i64 (5), .int .i64 (1), .int .i64 (0), .int .i64 (0), .bool false, .slice none 0 0] 40 (0, 0))) :: (Asn.own b15_2 (.cells #[.int .i64 e8_b15_2_0, .int .i64 e8_b15_2_1, .int .i64 e8_b15_2_2, .int .i64 e8_b15_2_3, .int .i64 e8_b15_2_4, .int .i64 e8_b15_2_5, .int .i64 e8_b15_2_6, .bool e8_b15_2_7, .slice e8_b15_2_8a (List.length e8_b15_2_8x) e8_b15_2_8c] 40 (0, 0))) :: (Asn.own b14_12 (.cells #[.int .i64 e8_b14_12_0, .int .i64 e8_b14_12_1, .int .i64 e8_b14_12_2, .int .i64 e8_b14_12_3, .int .i64 e8_b14_12_4, .int .i64 e8_b14_12_5, .slice e8_b14_12_6a (List.length e8_b14_12_6x) e8_b14_12_6c, .int .i64 e8_b14_12_7, .int .i64 e8_b14_12_8] 35 (0, 0))) :: (CacheA b6_0_0 e8_b6_0_0) :: (RCacheA b6_0_1 y6_0.2) :: Γ) ⟨by kernel_rfl, by kernel_rfl, by kernel_rfl, by kernel_rfl, by kernel_rfl, by kernel_rfl, by kernel_rfl, by kernel_rfl, by kernel_rfl, by kernel_rfl, by kernel_rfl, trivial⟩ (fun w hw => (Sat.less (.take .here (.take .here (.take .here (.take .here (.take .here (.take .here (.take .here .refl))))))) hw)) ⟨!(decide (e8_b15_2_5 = e0_1)), H, rfl, rfl⟩
                    · replace H := bifF H h31
                      refine at_false (t := !(decide (e0_0 = ((-1) : Int)))) (x := C8 [1,1,1,1,1,1,1,1,1,1,1,1,1,1,0,1,0,1,1,0,1,0]) (y := C8 [1,1,1,1,1,1,1,1,1,1,1,1,1,1,0,1,0,1,1,0,1,1]) (o := .tmp 115) (by kernel_rfl) (by kernel_rfl) (by kernel_rfl) h31 ?_
                      refine at_skip (by kernel_rfl) ?_
                      refine at_then_normal ?_
                      refine at_seq (x := C8 [1,1,1,1,1,1,1,1,1,1,1,1,1,1,0,1,0,1,1,1,0]) (y := C8 [1,1,1,1,1,1,1,1,1,1,1,1,1,1,0,1,0,1,1,1,1]) (by kernel_rfl) ?_
                      refine at_region (id := 34) 1 (by kernel_rfl) (by kernel_rfl) ?_
                      refine s_pure 151 (.bool e2_13) (by kernel_rfl) (by kernel_rfl) (fun _ => by kernel_rfl) ?_
                      refine ops_end ?_
                      refine At.env [(3, .int .i64 data), (4, .bool e3_4), (5, .bool there), (14, .pointer (some ⟨b6_0_0, 0, none⟩)), (17, .pointer (some ⟨b14_12, 0, none⟩)), (18, .bool e8_18), (19, .pointer (some ⟨b15_2, 0, none⟩)), (20, .pointer (some ⟨b16_1, 0, none⟩)), (21, .int .i64 e8_21), (22, .int .i64 (1)), (151, .bool e2_13)] ⟨by kernel_rfl, by kernel_rfl, by kernel_rfl, by kernel_rfl, by kernel_rfl, by kernel_rfl, by kernel_rfl, by kernel_rfl, by kernel_rfl, by kernel_rfl, by kernel_rfl, trivial⟩ ?_
                      refine at_then_normal ?_
                      rcases Bool.eq_false_or_eq_true (e2_13) with h38 | h38
                      · replace H := bifT H h38
                        refine at_true (t := e2_13) (x := C8 [1,1,1,1,1,1,1,1,1,1,1,1,1,1,0,1,0,1,1,1,1,0]) (y := C8 [1,1,1,1,1,1,1,1,1,1,1,1,1,1,0,1,0,1,1,1,1,1]) (o := .tmp 151) (by kernel_rfl) (by kernel_rfl) (by kernel_rfl) h38 ?_
                        refine at_region (id := 35) 1 (by kernel_rfl) (by kernel_rfl) ?_
                        refine s_pure 22 (.int .i64 (0)) (by kernel_rfl) (by kernel_rfl) (fun _ => by kernel_rfl) ?_
                        refine ops_end ?_
                        refine At.env [(3, .int .i64 data), (4, .bool e3_4), (5, .bool there), (14, .pointer (some ⟨b6_0_0, 0, none⟩)), (17, .pointer (some ⟨b14_12, 0, none⟩)), (18, .bool e8_18), (19, .pointer (some ⟨b15_2, 0, none⟩)), (20, .pointer (some ⟨b16_1, 0, none⟩)), (21, .int .i64 e8_21), (22, .int .i64 (0))] ⟨by kernel_rfl, by kernel_rfl, by kernel_rfl, by kernel_rfl, by kernel_rfl, by kernel_rfl, by kernel_rfl, by kernel_rfl, by kernel_rfl, by kernel_rfl, trivial⟩ ?_
                        refine at_round_normal ?_
                        exact at_join_mk [(3, .int .i64 data), (4, .bool e3_4), (5, .bool there), (14, .pointer (some ⟨b6_0_0, 0, none⟩)), (17, .pointer (some ⟨b14_12, 0, none⟩)), (18, .bool e8_18), (19, .pointer (some ⟨b15_2, 0, none⟩)), (20, .pointer (some ⟨b16_1, 0, none⟩)), (21, .int .i64 e8_21), (22, .int .i64 0)] ((IntsA e8_b15_2_8a e8_b15_2_8c e8_b15_2_8x) :: (ImmI e8_b14_12_6a e8_b14_12_6x) :: (Asn.own b16_1 (.cells #[.int .i64 (8), .int .i64 (0), .int .i64 (0), .int .i64 (5), .int .i64 (1), .int .i64 (0), .int .i64 (0), .bool false, .slice none 0 0] 40 (0, 0))) :: (Asn.own b15_2 (.cells #[.int .i64 e8_b15_2_0, .int .i64 e8_b15_2_1, .int .i64 e8_b15_2_2, .int .i64 e8_b15_2_3, .int .i64 e8_b15_2_4, .int .i64 e8_b15_2_5, .int .i64 e8_b15_2_6, .bool e8_b15_2_7, .slice e8_b15_2_8a (List.length e8_b15_2_8x) e8_b15_2_8c] 40 (0, 0))) :: (Asn.own b14_12 (.cells #[.int .i64 e8_b14_12_0, .int .i64 e8_b14_12_1, .int .i64 e8_b14_12_2, .int .i64 e8_b14_12_3, .int .i64 e8_b14_12_4, .int .i64 e8_b14_12_5, .slice e8_b14_12_6a (List.length e8_b14_12_6x) e8_b14_12_6c, .int .i64 e8_b14_12_7, .int .i64 e8_b14_12_8] 35 (0, 0))) :: (CacheA b6_0_0 e8_b6_0_0) :: (RCacheA b6_0_1 y6_0.2) :: Γ) ⟨by kernel_rfl, by kernel_rfl, by kernel_rfl, by kernel_rfl, by kernel_rfl, by kernel_rfl, by kernel_rfl, by kernel_rfl, by kernel_rfl, by kernel_rfl, trivial⟩ (fun w hw => (Sat.less (.take .here (.take .here (.take .here (.take .here (.take .here (.take .here (.take .here .refl))))))) hw)) ⟨e8_18, e8_21, 0, e8_b15_2_0, e8_b15_2_1, e8_b15_2_2, e8_b15_2_3, e8_b15_2_4, e8_b15_2_5, e8_b15_2_6, e8_b15_2_7, e8_b15_2_8x, e8_b14_12_0, e8_b14_12_1, e8_b14_12_2, e8_b14_12_3, e8_b14_12_4, e8_b14_12_5, e8_b14_12_6x, e8_b14_12_7, e8_b14_12_8, e8_b6_0_0, e8_b15_2_8a, e8_b15_2_8c, e8_b14_12_6a, e8_b14_12_6c, H, rfl, rfl⟩
                      · replace H := bifF H h38
                        refine at_false (t := e2_13) (x := C8 [1,1,1,1,1,1,1,1,1,1,1,1,1,1,0,1,0,1,1,1,1,0]) (y := C8 [1,1,1,1,1,1,1,1,1,1,1,1,1,1,0,1,0,1,1,1,1,1]) (o := .tmp 151) (by kernel_rfl) (by kernel_rfl) (by kernel_rfl) h38 ?_
                        refine at_skip (by kernel_rfl) ?_
                        refine at_round_normal ?_
                        exact at_join_mk [(3, .int .i64 data), (4, .bool e3_4), (5, .bool there), (14, .pointer (some ⟨b6_0_0, 0, none⟩)), (17, .pointer (some ⟨b14_12, 0, none⟩)), (18, .bool e8_18), (19, .pointer (some ⟨b15_2, 0, none⟩)), (20, .pointer (some ⟨b16_1, 0, none⟩)), (21, .int .i64 e8_21), (22, .int .i64 1)] ((IntsA e8_b15_2_8a e8_b15_2_8c e8_b15_2_8x) :: (ImmI e8_b14_12_6a e8_b14_12_6x) :: (Asn.own b16_1 (.cells #[.int .i64 (8), .int .i64 (0), .int .i64 (0), .int .i64 (5), .int .i64 (1), .int .i64 (0), .int .i64 (0), .bool false, .slice none 0 0] 40 (0, 0))) :: (Asn.own b15_2 (.cells #[.int .i64 e8_b15_2_0, .int .i64 e8_b15_2_1, .int .i64 e8_b15_2_2, .int .i64 e8_b15_2_3, .int .i64 e8_b15_2_4, .int .i64 e8_b15_2_5, .int .i64 e8_b15_2_6, .bool e8_b15_2_7, .slice e8_b15_2_8a (List.length e8_b15_2_8x) e8_b15_2_8c] 40 (0, 0))) :: (Asn.own b14_12 (.cells #[.int .i64 e8_b14_12_0, .int .i64 e8_b14_12_1, .int .i64 e8_b14_12_2, .int .i64 e8_b14_12_3, .int .i64 e8_b14_12_4, .int .i64 e8_b14_12_5, .slice e8_b14_12_6a (List.length e8_b14_12_6x) e8_b14_12_6c, .int .i64 e8_b14_12_7, .int .i64 e8_b14_12_8] 35 (0, 0))) :: (CacheA b6_0_0 e8_b6_0_0) :: (RCacheA b6_0_1 y6_0.2) :: Γ) ⟨by kernel_rfl, by kernel_rfl, by kernel_rfl, by kernel_rfl, by kernel_rfl, by kernel_rfl, by kernel_rfl, by kernel_rfl, by kernel_rfl, by kernel_rfl, trivial⟩ (fun w hw => (Sat.less (.take .here (.take .here (.take .here (.take .here (.take .here (.take .here (.take .here .refl))))))) hw)) ⟨e8_18, e8_21, 1, e8_b15_2_0, e8_b15_2_1, e8_b15_2_2, e8_b15_2_3, e8_b15_2_4, e8_b15_2_5, e8_b15_2_6, e8_b15_2_7, e8_b15_2_8x, e8_b14_12_0, e8_b14_12_1, e8_b14_12_2, e8_b14_12_3, e8_b14_12_4, e8_b14_12_5, e8_b14_12_6x, e8_b14_12_7, e8_b14_12_8, e8_b6_0_0, e8_b15_2_8a, e8_b15_2_8c, e8_b14_12_6a, e8_b14_12_6c, H, rfl, rfl⟩
                  · refine at_seq (x := C8 [1,1,1,1,1,1,1,1,1,1,1,1,1,1,0,1,0,1,0,0]) (y := C8 [1,1,1,1,1,1,1,1,1,1,1,1,1,1,0,1,0,1,0,1]) (by kernel_rfl) ?_
                    refine at_region (id := 20) 2 (by kernel_rfl) (by kernel_rfl) ?_
                    refine s_pure 83 (.int .i64 e0_1) (by kernel_rfl) (by kernel_rfl) (fun _ => by kernel_rfl) ?_
                    refine s_pure 84 (.bool (!(decide (e0_1 = ((-1) : Int))))) (by kernel_rfl) (by kernel_rfl) (fun _ => by kernel_rfl) ?_
                    refine ops_end ?_
                    refine At.env [(0, .int .i64 e0_0), (1, .int .i64 e0_1), (3, .int .i64 data), (4, .bool e3_4), (5, .bool there), (13, .bool e2_13), (14, .pointer (some ⟨b6_0_0, 0, none⟩)), (17, .pointer (some ⟨b14_12, 0, none⟩)), (18, .bool y14_8.2.1), (19, .pointer (some ⟨b15_2, 0, none⟩)), (20, .pointer (some ⟨b16_1, 0, none⟩)), (21, .int .i64 e1_2), (22, .int .i64 (1)), (84, .bool (!(decide (e0_1 = ((-1) : Int)))))] ⟨by kernel_rfl, by kernel_rfl, by kernel_rfl, by kernel_rfl, by kernel_rfl, by kernel_rfl, by kernel_rfl, by kernel_rfl, by kernel_rfl, by kernel_rfl, by kernel_rfl, by kernel_rfl, by kernel_rfl, by kernel_rfl, trivial⟩ ?_
                    refine at_then_normal ?_
                    rcases Bool.eq_false_or_eq_true (!(decide (e0_1 = ((-1) : Int)))) with h39 | h39
                    · replace H := bifT H h39
                      refine at_true (t := !(decide (e0_1 = ((-1) : Int)))) (x := C8 [1,1,1,1,1,1,1,1,1,1,1,1,1,1,0,1,0,1,0,1,0]) (y := C8 [1,1,1,1,1,1,1,1,1,1,1,1,1,1,0,1,0,1,0,1,1]) (o := .tmp 84) (by kernel_rfl) (by kernel_rfl) (by kernel_rfl) h39 ?_
                      refine at_seq (x := C8 [1,1,1,1,1,1,1,1,1,1,1,1,1,1,0,1,0,1,0,1,0,0]) (y := C8 [1,1,1,1,1,1,1,1,1,1,1,1,1,1,0,1,0,1,0,1,0,1]) (by kernel_rfl) ?_
                      refine at_seq_join (x := C8 [1,1,1,1,1,1,1,1,1,1,1,1,1,1,0,1,0,1,0,1,0,0,0]) (y := C8 [1,1,1,1,1,1,1,1,1,1,1,1,1,1,0,1,0,1,0,1,0,0,1]) (fun ff ΔΔ => ∃ (e10_103 : Bool), rolloutLeavesS_j10 y14_8 e0_0 e2_13 there e3_4 data e0_1 e1_2 e10_103 = some y ∧ ff = [(0, .int .i64 e0_0), (1, .int .i64 e0_1), (3, .int .i64 data), (4, .bool e3_4), (5, .bool there), (13, .bool e2_13), (14, .pointer (some ⟨b6_0_0, 0, none⟩)), (17, .pointer (some ⟨b14_12, 0, none⟩)), (19, .pointer (some ⟨b15_2, 0, none⟩)), (20, .pointer (some ⟨b16_1, 0, none⟩)), (21, .int .i64 e1_2), (22, .int .i64 (1)), (103, .bool e10_103)] ∧ (Asn.own b16_1 (.cells #[.int .i64 (8), .int .i64 (0), .int .i64 (0), .int .i64 (5), .int .i64 (1), .int .i64 (0), .int .i64 (0), .bool false, .slice none 0 0] 40 (0, 0))) :: (Asn.own b15_2 (.cells #[.int .i64 y15_1.kind, .int .i64 y15_1.src, .int .i64 y15_1.dst, .int .i64 y15_1.id, .int .i64 y15_1.line, .int .i64 y15_1.ptr, .int .i64 y15_1.state, .bool y15_1.flag, .slice a15_1_00 (List.length y15_1.data) c15_1_00] 40 (0, 0))) :: (IntsA a15_1_00 c15_1_00 y15_1.data) :: (Asn.own b14_12 (.cells #[.int .i64 y14_8.1.kind, .int .i64 y14_8.1.line, .int .i64 y14_8.1.id, .int .i64 y14_8.1.step, .int .i64 y14_8.1.state, .int .i64 y14_8.1.head, .slice a14_8_00 (List.length y14_8.1.data) c14_8_00, .int .i64 y14_8.1.next, .int .i64 y14_8.1.told] 35 (0, 0))) :: (ImmI a14_8_00 y14_8.1.data) :: (CacheA b6_0_0 y14_8.2.2) :: (RCacheA b6_0_1 y6_0.2) :: Γ = ΔΔ) (by kernel_rfl) ?_ ?_
                      · rintro _ _ ⟨e10_103, H, rfl, rfl⟩
                        rw [rolloutLeavesS_j10] at H
                        rcases Bool.eq_false_or_eq_true (e10_103) with h40 | h40
                        · replace H := bifT H h40
                          refine at_true (t := e10_103) (x := C8 [1,1,1,1,1,1,1,1,1,1,1,1,1,1,0,1,0,1,0,1,0,0,1,0]) (y := C8 [1,1,1,1,1,1,1,1,1,1,1,1,1,1,0,1,0,1,0,1,0,0,1,1]) (o := .tmp 103) (by kernel_rfl) (by kernel_rfl) (by kernel_rfl) h40 ?_
                          refine at_seq (x := C8 [1,1,1,1,1,1,1,1,1,1,1,1,1,1,0,1,0,1,0,1,0,0,1,0,0]) (y := C8 [1,1,1,1,1,1,1,1,1,1,1,1,1,1,0,1,0,1,0,1,0,0,1,0,1]) (by kernel_rfl) ?_
                          refine at_region (id := 22) 1 (by kernel_rfl) (by kernel_rfl) ?_
                          refine s_pure 12 (.bool false) (by kernel_rfl) (by kernel_rfl) (fun _ => by kernel_rfl) ?_
                          refine ops_end ?_
                          refine At.env [(12, .bool false)] ⟨by kernel_rfl, trivial⟩ ?_
                          refine at_then_normal ?_
                          refine at_ret (by kernel_rfl) ?_
                          refine at_then_ret ?_
                          refine at_then_ret ?_
                          refine at_then_ret ?_
                          obtain rfl := someE H
                          refine at_backR [.bool false] (Γ) (rs := [.tmp 12]) (by kernel_rfl) (.cons (.tmp (by kernel_rfl)) .nil) (fun w hw => (Sat.less (.drop .here (.drop .here (.drop .here (.drop .here (.drop .here (.drop .here (.drop .here .refl))))))) hw)) ?_
                          exact ⟨rfl, rfl⟩
                        · replace H := bifF H h40
                          refine at_false (t := e10_103) (x := C8 [1,1,1,1,1,1,1,1,1,1,1,1,1,1,0,1,0,1,0,1,0,0,1,0]) (y := C8 [1,1,1,1,1,1,1,1,1,1,1,1,1,1,0,1,0,1,0,1,0,0,1,1]) (o := .tmp 103) (by kernel_rfl) (by kernel_rfl) (by kernel_rfl) h40 ?_
                          refine at_skip (by kernel_rfl) ?_
                          refine at_then_normal ?_
                          refine at_seq (x := C8 [1,1,1,1,1,1,1,1,1,1,1,1,1,1,0,1,0,1,0,1,0,1,0]) (y := C8 [1,1,1,1,1,1,1,1,1,1,1,1,1,1,0,1,0,1,0,1,0,1,1]) (by kernel_rfl) ?_
                          refine at_region (id := 23) 9 (by kernel_rfl) (by kernel_rfl) ?_
                          refine s_load 105 (.agg #[.int .i64 y14_8.1.kind, .int .i64 y14_8.1.line, .int .i64 y14_8.1.id, .int .i64 y14_8.1.step, .int .i64 y14_8.1.state, .int .i64 y14_8.1.head, .slice a14_8_00 (List.length y14_8.1.data) c14_8_00, .int .i64 y14_8.1.next, .int .i64 y14_8.1.told]) (by kernel_rfl) (by kernel_rfl) (loadN (off := 0) (vs := [.int .i64 y14_8.1.kind, .int .i64 y14_8.1.line, .int .i64 y14_8.1.id, .int .i64 y14_8.1.step, .int .i64 y14_8.1.state, .int .i64 y14_8.1.head, .slice a14_8_00 (List.length y14_8.1.data) c14_8_00, .int .i64 y14_8.1.next, .int .i64 y14_8.1.told]) 9 (fun _ => by kernel_rfl) (holds_own (.there (.there (.there .here)))) rfl (by exact ⟨rfl, rfl, rfl, rfl, rfl, rfl, rfl, rfl, rfl, trivial⟩)) ?_
                          refine s_pure 106 (.pointer (some ⟨b6_0_0, 0, none⟩)) (by kernel_rfl) (by kernel_rfl) (fun _ => by kernel_rfl) ?_
                          refine s_load 107 (.agg #[.int .i64 (8), .int .i64 (0), .int .i64 (0), .int .i64 (5), .int .i64 (1), .int .i64 (0), .int .i64 (0), .bool false, .slice none 0 0]) (by kernel_rfl) (by kernel_rfl) (loadN (off := 0) (vs := [.int .i64 (8), .int .i64 (0), .int .i64 (0), .int .i64 (5), .int .i64 (1), .int .i64 (0), .int .i64 (0), .bool false, .slice none 0 0]) 9 (fun _ => by kernel_rfl) (holds_own .here) rfl (by exact ⟨rfl, rfl, rfl, rfl, rfl, rfl, rfl, rfl, rfl, trivial⟩)) ?_
                          obtain ⟨y23_3, hy23_3, H⟩ := bindE H
                          refine s_call 108 30 #[.agg #[.int .i64 y14_8.1.kind, .int .i64 y14_8.1.line, .int .i64 y14_8.1.id, .int .i64 y14_8.1.step, .int .i64 y14_8.1.state, .int .i64 y14_8.1.head, .slice a14_8_00 (List.length y14_8.1.data) c14_8_00, .int .i64 y14_8.1.next, .int .i64 y14_8.1.told], .int .i64 (2), .pointer (some ⟨b6_0_0, 0, none⟩), .agg #[.int .i64 (8), .int .i64 (0), .int .i64 (0), .int .i64 (5), .int .i64 (1), .int .i64 (0), .int .i64 (0), .bool false, .slice none 0 0]] (by kernel_rfl) (by kernel_rfl) (fun _ => by kernel_rfl) (Tr.conv (Γ' := (ImmI a14_8_00 y14_8.1.data) :: (CacheA b6_0_0 y14_8.2.2) :: (ImmI a14_8_00 y14_8.1.data) :: (Asn.own b16_1 (.cells #[.int .i64 (8), .int .i64 (0), .int .i64 (0), .int .i64 (5), .int .i64 (1), .int .i64 (0), .int .i64 (0), .bool false, .slice none 0 0] 40 (0, 0))) :: (Asn.own b15_2 (.cells #[.int .i64 y15_1.kind, .int .i64 y15_1.src, .int .i64 y15_1.dst, .int .i64 y15_1.id, .int .i64 y15_1.line, .int .i64 y15_1.ptr, .int .i64 y15_1.state, .bool y15_1.flag, .slice a15_1_00 (List.length y15_1.data) c15_1_00] 40 (0, 0))) :: (IntsA a15_1_00 c15_1_00 y15_1.data) :: (Asn.own b14_12 (.cells #[.int .i64 y14_8.1.kind, .int .i64 y14_8.1.line, .int .i64 y14_8.1.id, .int .i64 y14_8.1.step, .int .i64 y14_8.1.state, .int .i64 y14_8.1.head, .slice a14_8_00 (List.length y14_8.1.data) c14_8_00, .int .i64 y14_8.1.next, .int .i64 y14_8.1.told] 35 (0, 0))) :: (RCacheA b6_0_1 y6_0.2) :: Γ) (fun w hw => (Sat.less (.take .here (.take (.there (.there (.there (.there (.there .here))))) (.take .here (.take .here (.take .here (.take .here (.take .here (.take .here .refl)))))))) (ImmR.dup (Sat.less (.take (.there (.there (.there (.there .here)))) (.take .here (.take .here (.take .here (.take .here (.take .here (.take .here .refl))))))) hw)))) (RNextF_tr a14_8_00 c14_8_00 y14_8.1 (2 : Int) b6_0_0 y14_8.2.2 none 0 (⟨8, 0, 0, 5, 1, 0, 0, false, ([] : List Int)⟩ : PktS) Reads.nil y23_3 hy23_3)) ?_
                          rintro _ _ ⟨a23_3_00, c23_3_00, rfl, rfl⟩
                          refine s_pure 104 (.tuple #[.agg #[.int .i64 y23_3.1.kind, .int .i64 y23_3.1.line, .int .i64 y23_3.1.id, .int .i64 y23_3.1.step, .int .i64 y23_3.1.state, .int .i64 y23_3.1.head, .slice a23_3_00 (List.length y23_3.1.data) c23_3_00, .int .i64 y23_3.1.next, .int .i64 y23_3.1.told], .bool y23_3.2.1]) (by kernel_rfl) (by kernel_rfl) (fun _ => by kernel_rfl) ?_
                          refine s_pure 109 (.agg #[.int .i64 y23_3.1.kind, .int .i64 y23_3.1.line, .int .i64 y23_3.1.id, .int .i64 y23_3.1.step, .int .i64 y23_3.1.state, .int .i64 y23_3.1.head, .slice a23_3_00 (List.length y23_3.1.data) c23_3_00, .int .i64 y23_3.1.next, .int .i64 y23_3.1.told]) (by kernel_rfl) (by kernel_rfl) (fun _ => by kernel_rfl) ?_
                          refine s_pure 110 (.bool y23_3.2.1) (by kernel_rfl) (by kernel_rfl) (fun _ => by kernel_rfl) ?_
                          refine s_do (by kernel_rfl) (by kernel_rfl) (st_store (off := 0) (vs := [.int .i64 y23_3.1.kind, .int .i64 y23_3.1.line, .int .i64 y23_3.1.id, .int .i64 y23_3.1.step, .int .i64 y23_3.1.state, .int .i64 y23_3.1.head, .slice a23_3_00 (List.length y23_3.1.data) c23_3_00, .int .i64 y23_3.1.next, .int .i64 y23_3.1.told]) (c' := #[.int .i64 y23_3.1.kind, .int .i64 y23_3.1.line, .int .i64 y23_3.1.id, .int .i64 y23_3.1.step, .int .i64 y23_3.1.state, .int .i64 y23_3.1.head, .slice a23_3_00 (List.length y23_3.1.data) c23_3_00, .int .i64 y23_3.1.next, .int .i64 y23_3.1.told]) (fun _ => by kernel_rfl) (.there (.there (.there (.there (.there (.there .here)))))) (by kernel_rfl) (by kernel_rfl) (by kernel_rfl)) ?_
                          rintro _ _ ⟨rfl, rfl⟩
                          refine s_pure 18 (.bool y23_3.2.1) (by kernel_rfl) (by kernel_rfl) (fun _ => by kernel_rfl) ?_
                          refine ops_end ?_
                          refine At.env [(0, .int .i64 e0_0), (1, .int .i64 e0_1), (3, .int .i64 data), (4, .bool e3_4), (5, .bool there), (13, .bool e2_13), (14, .pointer (some ⟨b6_0_0, 0, none⟩)), (17, .pointer (some ⟨b14_12, 0, none⟩)), (18, .bool y23_3.2.1), (19, .pointer (some ⟨b15_2, 0, none⟩)), (20, .pointer (some ⟨b16_1, 0, none⟩)), (21, .int .i64 e1_2), (22, .int .i64 (1))] ⟨by kernel_rfl, by kernel_rfl, by kernel_rfl, by kernel_rfl, by kernel_rfl, by kernel_rfl, by kernel_rfl, by kernel_rfl, by kernel_rfl, by kernel_rfl, by kernel_rfl, by kernel_rfl, by kernel_rfl, trivial⟩ ?_
                          refine at_then_normal ?_
                          refine at_region (id := 24) 3 (by kernel_rfl) (by kernel_rfl) ?_
                          refine s_load 111 (.agg #[.int .i64 y23_3.1.kind, .int .i64 y23_3.1.line, .int .i64 y23_3.1.id, .int .i64 y23_3.1.step, .int .i64 y23_3.1.state, .int .i64 y23_3.1.head, .slice a23_3_00 (List.length y23_3.1.data) c23_3_00, .int .i64 y23_3.1.next, .int .i64 y23_3.1.told]) (by kernel_rfl) (by kernel_rfl) (loadN (off := 0) (vs := [.int .i64 y23_3.1.kind, .int .i64 y23_3.1.line, .int .i64 y23_3.1.id, .int .i64 y23_3.1.step, .int .i64 y23_3.1.state, .int .i64 y23_3.1.head, .slice a23_3_00 (List.length y23_3.1.data) c23_3_00, .int .i64 y23_3.1.next, .int .i64 y23_3.1.told]) 9 (fun _ => by kernel_rfl) (holds_own .here) rfl (by exact ⟨rfl, rfl, rfl, rfl, rfl, rfl, rfl, rfl, rfl, trivial⟩)) ?_
                          obtain ⟨y24_1, hy24_1, H⟩ := bindE H
                          refine s_call 112 26 #[.agg #[.int .i64 y23_3.1.kind, .int .i64 y23_3.1.line, .int .i64 y23_3.1.id, .int .i64 y23_3.1.step, .int .i64 y23_3.1.state, .int .i64 y23_3.1.head, .slice a23_3_00 (List.length y23_3.1.data) c23_3_00, .int .i64 y23_3.1.next, .int .i64 y23_3.1.told], .int .i64 (2), .int .i64 (0)] (by kernel_rfl) (by kernel_rfl) (fun _ => by kernel_rfl) (DAskF_tr a23_3_00 c23_3_00 y23_3.1 (2 : Int) (0 : Int) (ImmR.reads (k := 1) (.there .here)) y24_1 hy24_1) ?_
                          rintro _ _ ⟨a24_1_00, c24_1_00, rfl, rfl⟩
                          refine s_do (by kernel_rfl) (by kernel_rfl) (st_store (off := 0) (vs := [.int .i64 y24_1.kind, .int .i64 y24_1.src, .int .i64 y24_1.dst, .int .i64 y24_1.id, .int .i64 y24_1.line, .int .i64 y24_1.ptr, .int .i64 y24_1.state, .bool y24_1.flag, .slice a24_1_00 (List.length y24_1.data) c24_1_00]) (c' := #[.int .i64 y24_1.kind, .int .i64 y24_1.src, .int .i64 y24_1.dst, .int .i64 y24_1.id, .int .i64 y24_1.line, .int .i64 y24_1.ptr, .int .i64 y24_1.state, .bool y24_1.flag, .slice a24_1_00 (List.length y24_1.data) c24_1_00]) (fun _ => by kernel_rfl) (.there (.there (.there (.there (.there (.there .here)))))) (by kernel_rfl) (by kernel_rfl) (by kernel_rfl)) ?_
                          rintro _ _ ⟨rfl, rfl⟩
                          refine ops_end ?_
                          refine At.env [(0, .int .i64 e0_0), (1, .int .i64 e0_1), (3, .int .i64 data), (4, .bool e3_4), (5, .bool there), (13, .bool e2_13), (14, .pointer (some ⟨b6_0_0, 0, none⟩)), (17, .pointer (some ⟨b14_12, 0, none⟩)), (18, .bool y23_3.2.1), (19, .pointer (some ⟨b15_2, 0, none⟩)), (20, .pointer (some ⟨b16_1, 0, none⟩)), (21, .int .i64 e1_2), (22, .int .i64 (1))] ⟨by kernel_rfl, by kernel_rfl, by kernel_rfl, by kernel_rfl, by kernel_rfl, by kernel_rfl, by kernel_rfl, by kernel_rfl, by kernel_rfl, by kernel_rfl, by kernel_rfl, by kernel_rfl, by kernel_rfl, trivial⟩ ?_
                          refine at_round_normal ?_
                          exact at_join_mk [(0, .int .i64 e0_0), (1, .int .i64 e0_1), (3, .int .i64 data), (4, .bool e3_4), (5, .bool there), (13, .bool e2_13), (14, .pointer (some ⟨b6_0_0, 0, none⟩)), (17, .pointer (some ⟨b14_12, 0, none⟩)), (18, .bool y23_3.2.1), (19, .pointer (some ⟨b15_2, 0, none⟩)), (20, .pointer (some ⟨b16_1, 0, none⟩)), (21, .int .i64 e1_2), (22, .int .i64 (1))] ((IntsA a24_1_00 c24_1_00 y24_1.data) :: (ImmI a23_3_00 y23_3.1.data) :: (Asn.own b16_1 (.cells #[.int .i64 (8), .int .i64 (0), .int .i64 (0), .int .i64 (5), .int .i64 (1), .int .i64 (0), .int .i64 (0), .bool false, .slice none 0 0] 40 (0, 0))) :: (Asn.own b15_2 (.cells #[.int .i64 y24_1.kind, .int .i64 y24_1.src, .int .i64 y24_1.dst, .int .i64 y24_1.id, .int .i64 y24_1.line, .int .i64 y24_1.ptr, .int .i64 y24_1.state, .bool y24_1.flag, .slice a24_1_00 (List.length y24_1.data) c24_1_00] 40 (0, 0))) :: (Asn.own b14_12 (.cells #[.int .i64 y23_3.1.kind, .int .i64 y23_3.1.line, .int .i64 y23_3.1.id, .int .i64 y23_3.1.step, .int .i64 y23_3.1.state, .int .i64 y23_3.1.head, .slice a23_3_00 (List.length y23_3.1.data) c23_3_00, .int .i64 y23_3.1.next, .int .i64 y23_3.1.told] 35 (0, 0))) :: (CacheA b6_0_0 y23_3.2.2) :: (RCacheA b6_0_1 y6_0.2) :: Γ) ⟨by kernel_rfl, by kernel_rfl, by kernel_rfl, by kernel_rfl, by kernel_rfl, by kernel_rfl, by kernel_rfl, by kernel_rfl, by kernel_rfl, by kernel_rfl, by kernel_rfl, by kernel_rfl, by kernel_rfl, trivial⟩ (fun w hw => (Sat.less (.take (.there .here) (.take (.there (.there .here)) (.take (.there (.there (.there (.there .here)))) (.take .here (.take .here (.take .here (.take (.there (.there .here)) (.drop .here (.drop .here .refl))))))))) hw)) ⟨y23_3.2.1, e1_2, y24_1.kind, y24_1.src, y24_1.dst, y24_1.id, y24_1.line, y24_1.ptr, y24_1.state, y24_1.flag, y24_1.data, y23_3.1.kind, y23_3.1.line, y23_3.1.id, y23_3.1.step, y23_3.1.state, y23_3.1.head, y23_3.1.data, y23_3.1.next, y23_3.1.told, y23_3.2.2, a24_1_00, c24_1_00, a23_3_00, c23_3_00, H, rfl, rfl⟩
                      · refine at_region (id := 21) 19 (by kernel_rfl) (by kernel_rfl) ?_
                        refine s_pure 85 (.bool y14_8.2.1) (by kernel_rfl) (by kernel_rfl) (fun _ => by kernel_rfl) ?_
                        refine s_pure 86 (.bool !y14_8.2.1) (by kernel_rfl) (by kernel_rfl) (fun _ => by kernel_rfl) ?_
                        rcases Bool.eq_false_or_eq_true (!y14_8.2.1) with h41 | h41
                        · replace H := bifT H h41
                          refine s_pure 87 (.bool true) (by kernel_rfl) (by kernel_rfl) (run_eq (v := .bool (!y14_8.2.1)) (fun _ => by kernel_rfl) (congrArg Value.bool h41)) ?_
                          refine s_pass 88 (by kernel_rfl) (by kernel_rfl) ?_
                          refine s_pass 89 (by kernel_rfl) (by kernel_rfl) ?_
                          refine s_pass 90 (by kernel_rfl) (by kernel_rfl) ?_
                          refine s_pure 91 (.bool true) (by kernel_rfl) (by kernel_rfl) (fun _ => by kernel_rfl) ?_
                          refine s_pure 92 (.bool true) (by kernel_rfl) (by kernel_rfl) (fun _ => by kernel_rfl) ?_
                          refine s_pass 93 (by kernel_rfl) (by kernel_rfl) ?_
                          refine s_pass 94 (by kernel_rfl) (by kernel_rfl) ?_
                          refine s_pass 95 (by kernel_rfl) (by kernel_rfl) ?_
                          refine s_pass 96 (by kernel_rfl) (by kernel_rfl) ?_
                          refine s_pure 97 (.bool true) (by kernel_rfl) (by kernel_rfl) (fun _ => by kernel_rfl) ?_
                          refine s_pure 98 (.bool true) (by kernel_rfl) (by kernel_rfl) (fun _ => by kernel_rfl) ?_
                          refine s_pass 99 (by kernel_rfl) (by kernel_rfl) ?_
                          refine s_pass 100 (by kernel_rfl) (by kernel_rfl) ?_
                          refine s_pass 101 (by kernel_rfl) (by kernel_rfl) ?_
                          refine s_pass 102 (by kernel_rfl) (by kernel_rfl) ?_
                          refine s_pure 103 (.bool true) (by kernel_rfl) (by kernel_rfl) (fun _ => by kernel_rfl) ?_
                          refine ops_end ?_
                          refine At.env [(0, .int .i64 e0_0), (1, .int .i64 e0_1), (3, .int .i64 data), (4, .bool e3_4), (5, .bool there), (13, .bool e2_13), (14, .pointer (some ⟨b6_0_0, 0, none⟩)), (17, .pointer (some ⟨b14_12, 0, none⟩)), (19, .pointer (some ⟨b15_2, 0, none⟩)), (20, .pointer (some ⟨b16_1, 0, none⟩)), (21, .int .i64 e1_2), (22, .int .i64 (1)), (103, .bool true)] ⟨by kernel_rfl, by kernel_rfl, by kernel_rfl, by kernel_rfl, by kernel_rfl, by kernel_rfl, by kernel_rfl, by kernel_rfl, by kernel_rfl, by kernel_rfl, by kernel_rfl, by kernel_rfl, by kernel_rfl, trivial⟩ ?_
                          refine at_round_normal ?_
                          exact at_join_mk [(0, .int .i64 e0_0), (1, .int .i64 e0_1), (3, .int .i64 data), (4, .bool e3_4), (5, .bool there), (13, .bool e2_13), (14, .pointer (some ⟨b6_0_0, 0, none⟩)), (17, .pointer (some ⟨b14_12, 0, none⟩)), (19, .pointer (some ⟨b15_2, 0, none⟩)), (20, .pointer (some ⟨b16_1, 0, none⟩)), (21, .int .i64 e1_2), (22, .int .i64 (1)), (103, .bool true)] ((Asn.own b16_1 (.cells #[.int .i64 (8), .int .i64 (0), .int .i64 (0), .int .i64 (5), .int .i64 (1), .int .i64 (0), .int .i64 (0), .bool false, .slice none 0 0] 40 (0, 0))) :: (Asn.own b15_2 (.cells #[.int .i64 y15_1.kind, .int .i64 y15_1.src, .int .i64 y15_1.dst, .int .i64 y15_1.id, .int .i64 y15_1.line, .int .i64 y15_1.ptr, .int .i64 y15_1.state, .bool y15_1.flag, .slice a15_1_00 (List.length y15_1.data) c15_1_00] 40 (0, 0))) :: (IntsA a15_1_00 c15_1_00 y15_1.data) :: (Asn.own b14_12 (.cells #[.int .i64 y14_8.1.kind, .int .i64 y14_8.1.line, .int .i64 y14_8.1.id, .int .i64 y14_8.1.step, .int .i64 y14_8.1.state, .int .i64 y14_8.1.head, .slice a14_8_00 (List.length y14_8.1.data) c14_8_00, .int .i64 y14_8.1.next, .int .i64 y14_8.1.told] 35 (0, 0))) :: (ImmI a14_8_00 y14_8.1.data) :: (CacheA b6_0_0 y14_8.2.2) :: (RCacheA b6_0_1 y6_0.2) :: Γ) ⟨by kernel_rfl, by kernel_rfl, by kernel_rfl, by kernel_rfl, by kernel_rfl, by kernel_rfl, by kernel_rfl, by kernel_rfl, by kernel_rfl, by kernel_rfl, by kernel_rfl, by kernel_rfl, by kernel_rfl, trivial⟩ (fun w hw => (Sat.less (.take .here (.take .here (.take .here (.take .here (.take .here (.take .here (.take (.there (.there .here)) (.drop .here (.drop .here .refl))))))))) hw)) ⟨true, H, rfl, rfl⟩
                        · replace H := bifF H h41
                          refine s_pure 87 (.bool false) (by kernel_rfl) (by kernel_rfl) (run_eq (v := .bool (!y14_8.2.1)) (fun _ => by kernel_rfl) (congrArg Value.bool h41)) ?_
                          refine s_pure 88 (.pointer (some ⟨b15_2, 0, none⟩)) (by kernel_rfl) (by kernel_rfl) (fun _ => by kernel_rfl) ?_
                          refine s_load 89 (.int .i64 y15_1.kind) (by kernel_rfl) (by kernel_rfl) (load1 (off := 0) (fun _ => by kernel_rfl) (holds_own (.there .here)) (by kernel_rfl)) ?_
                          refine s_pure 90 (.bool (!(decide (y15_1.kind = (4 : Int))))) (by kernel_rfl) (by kernel_rfl) (fun _ => by kernel_rfl) ?_
                          refine s_pure 91 (.bool (!(decide (y15_1.kind = (4 : Int))))) (by kernel_rfl) (by kernel_rfl) (fun _ => by kernel_rfl) ?_
                          rcases Bool.eq_false_or_eq_true (!(decide (y15_1.kind = (4 : Int)))) with h42 | h42
                          · replace H := bifT H h42
                            refine s_pure 92 (.bool true) (by kernel_rfl) (by kernel_rfl) (run_eq (v := .bool (!(decide (y15_1.kind = (4 : Int))))) (fun _ => by kernel_rfl) (congrArg Value.bool h42)) ?_
                            refine s_pass 93 (by kernel_rfl) (by kernel_rfl) ?_
                            refine s_pass 94 (by kernel_rfl) (by kernel_rfl) ?_
                            refine s_pass 95 (by kernel_rfl) (by kernel_rfl) ?_
                            refine s_pass 96 (by kernel_rfl) (by kernel_rfl) ?_
                            refine s_pure 97 (.bool true) (by kernel_rfl) (by kernel_rfl) (fun _ => by kernel_rfl) ?_
                            refine s_pure 98 (.bool true) (by kernel_rfl) (by kernel_rfl) (fun _ => by kernel_rfl) ?_
                            refine s_pass 99 (by kernel_rfl) (by kernel_rfl) ?_
                            refine s_pass 100 (by kernel_rfl) (by kernel_rfl) ?_
                            refine s_pass 101 (by kernel_rfl) (by kernel_rfl) ?_
                            refine s_pass 102 (by kernel_rfl) (by kernel_rfl) ?_
                            refine s_pure 103 (.bool true) (by kernel_rfl) (by kernel_rfl) (fun _ => by kernel_rfl) ?_
                            refine ops_end ?_
                            refine At.env [(0, .int .i64 e0_0), (1, .int .i64 e0_1), (3, .int .i64 data), (4, .bool e3_4), (5, .bool there), (13, .bool e2_13), (14, .pointer (some ⟨b6_0_0, 0, none⟩)), (17, .pointer (some ⟨b14_12, 0, none⟩)), (19, .pointer (some ⟨b15_2, 0, none⟩)), (20, .pointer (some ⟨b16_1, 0, none⟩)), (21, .int .i64 e1_2), (22, .int .i64 (1)), (103, .bool true)] ⟨by kernel_rfl, by kernel_rfl, by kernel_rfl, by kernel_rfl, by kernel_rfl, by kernel_rfl, by kernel_rfl, by kernel_rfl, by kernel_rfl, by kernel_rfl, by kernel_rfl, by kernel_rfl, by kernel_rfl, trivial⟩ ?_
                            refine at_round_normal ?_
                            exact at_join_mk [(0, .int .i64 e0_0), (1, .int .i64 e0_1), (3, .int .i64 data), (4, .bool e3_4), (5, .bool there), (13, .bool e2_13), (14, .pointer (some ⟨b6_0_0, 0, none⟩)), (17, .pointer (some ⟨b14_12, 0, none⟩)), (19, .pointer (some ⟨b15_2, 0, none⟩)), (20, .pointer (some ⟨b16_1, 0, none⟩)), (21, .int .i64 e1_2), (22, .int .i64 (1)), (103, .bool true)] ((Asn.own b16_1 (.cells #[.int .i64 (8), .int .i64 (0), .int .i64 (0), .int .i64 (5), .int .i64 (1), .int .i64 (0), .int .i64 (0), .bool false, .slice none 0 0] 40 (0, 0))) :: (Asn.own b15_2 (.cells #[.int .i64 y15_1.kind, .int .i64 y15_1.src, .int .i64 y15_1.dst, .int .i64 y15_1.id, .int .i64 y15_1.line, .int .i64 y15_1.ptr, .int .i64 y15_1.state, .bool y15_1.flag, .slice a15_1_00 (List.length y15_1.data) c15_1_00] 40 (0, 0))) :: (IntsA a15_1_00 c15_1_00 y15_1.data) :: (Asn.own b14_12 (.cells #[.int .i64 y14_8.1.kind, .int .i64 y14_8.1.line, .int .i64 y14_8.1.id, .int .i64 y14_8.1.step, .int .i64 y14_8.1.state, .int .i64 y14_8.1.head, .slice a14_8_00 (List.length y14_8.1.data) c14_8_00, .int .i64 y14_8.1.next, .int .i64 y14_8.1.told] 35 (0, 0))) :: (ImmI a14_8_00 y14_8.1.data) :: (CacheA b6_0_0 y14_8.2.2) :: (RCacheA b6_0_1 y6_0.2) :: Γ) ⟨by kernel_rfl, by kernel_rfl, by kernel_rfl, by kernel_rfl, by kernel_rfl, by kernel_rfl, by kernel_rfl, by kernel_rfl, by kernel_rfl, by kernel_rfl, by kernel_rfl, by kernel_rfl, by kernel_rfl, trivial⟩ (fun w hw => (Sat.less (.take .here (.take .here (.take .here (.take .here (.take .here (.take .here (.take (.there (.there .here)) (.drop .here (.drop .here .refl))))))))) hw)) ⟨true, H, rfl, rfl⟩
                          · replace H := bifF H h42
                            refine s_pure 92 (.bool false) (by kernel_rfl) (by kernel_rfl) (run_eq (v := .bool (!(decide (y15_1.kind = (4 : Int))))) (fun _ => by kernel_rfl) (congrArg Value.bool h42)) ?_
                            refine s_pure 93 (.pointer (some ⟨b15_2, 2, none⟩)) (by kernel_rfl) (by kernel_rfl) (fun _ => by kernel_rfl) ?_
                            refine s_load 94 (.int .i64 y15_1.dst) (by kernel_rfl) (by kernel_rfl) (load1 (off := 2) (fun _ => by kernel_rfl) (holds_own (.there .here)) (by kernel_rfl)) ?_
                            refine s_pure 95 (.int .i64 e0_1) (by kernel_rfl) (by kernel_rfl) (fun _ => by kernel_rfl) ?_
                            refine s_pure 96 (.bool (!(decide (y15_1.dst = e0_1)))) (by kernel_rfl) (by kernel_rfl) (fun _ => by kernel_rfl) ?_
                            refine s_pure 97 (.bool (!(decide (y15_1.dst = e0_1)))) (by kernel_rfl) (by kernel_rfl) (fun _ => by kernel_rfl) ?_
                            rcases Bool.eq_false_or_eq_true (!(decide (y15_1.dst = e0_1))) with h43 | h43
                            · replace H := bifT H h43
                              refine s_pure 98 (.bool true) (by kernel_rfl) (by kernel_rfl) (run_eq (v := .bool (!(decide (y15_1.dst = e0_1)))) (fun _ => by kernel_rfl) (congrArg Value.bool h43)) ?_
                              refine s_pass 99 (by kernel_rfl) (by kernel_rfl) ?_
                              refine s_pass 100 (by kernel_rfl) (by kernel_rfl) ?_
                              refine s_pass 101 (by kernel_rfl) (by kernel_rfl) ?_
                              refine s_pass 102 (by kernel_rfl) (by kernel_rfl) ?_
                              refine s_pure 103 (.bool true) (by kernel_rfl) (by kernel_rfl) (fun _ => by kernel_rfl) ?_
                              refine ops_end ?_
                              refine At.env [(0, .int .i64 e0_0), (1, .int .i64 e0_1), (3, .int .i64 data), (4, .bool e3_4), (5, .bool there), (13, .bool e2_13), (14, .pointer (some ⟨b6_0_0, 0, none⟩)), (17, .pointer (some ⟨b14_12, 0, none⟩)), (19, .pointer (some ⟨b15_2, 0, none⟩)), (20, .pointer (some ⟨b16_1, 0, none⟩)), (21, .int .i64 e1_2), (22, .int .i64 (1)), (103, .bool true)] ⟨by kernel_rfl, by kernel_rfl, by kernel_rfl, by kernel_rfl, by kernel_rfl, by kernel_rfl, by kernel_rfl, by kernel_rfl, by kernel_rfl, by kernel_rfl, by kernel_rfl, by kernel_rfl, by kernel_rfl, trivial⟩ ?_
                              refine at_round_normal ?_
                              exact at_join_mk [(0, .int .i64 e0_0), (1, .int .i64 e0_1), (3, .int .i64 data), (4, .bool e3_4), (5, .bool there), (13, .bool e2_13), (14, .pointer (some ⟨b6_0_0, 0, none⟩)), (17, .pointer (some ⟨b14_12, 0, none⟩)), (19, .pointer (some ⟨b15_2, 0, none⟩)), (20, .pointer (some ⟨b16_1, 0, none⟩)), (21, .int .i64 e1_2), (22, .int .i64 (1)), (103, .bool true)] ((Asn.own b16_1 (.cells #[.int .i64 (8), .int .i64 (0), .int .i64 (0), .int .i64 (5), .int .i64 (1), .int .i64 (0), .int .i64 (0), .bool false, .slice none 0 0] 40 (0, 0))) :: (Asn.own b15_2 (.cells #[.int .i64 y15_1.kind, .int .i64 y15_1.src, .int .i64 y15_1.dst, .int .i64 y15_1.id, .int .i64 y15_1.line, .int .i64 y15_1.ptr, .int .i64 y15_1.state, .bool y15_1.flag, .slice a15_1_00 (List.length y15_1.data) c15_1_00] 40 (0, 0))) :: (IntsA a15_1_00 c15_1_00 y15_1.data) :: (Asn.own b14_12 (.cells #[.int .i64 y14_8.1.kind, .int .i64 y14_8.1.line, .int .i64 y14_8.1.id, .int .i64 y14_8.1.step, .int .i64 y14_8.1.state, .int .i64 y14_8.1.head, .slice a14_8_00 (List.length y14_8.1.data) c14_8_00, .int .i64 y14_8.1.next, .int .i64 y14_8.1.told] 35 (0, 0))) :: (ImmI a14_8_00 y14_8.1.data) :: (CacheA b6_0_0 y14_8.2.2) :: (RCacheA b6_0_1 y6_0.2) :: Γ) ⟨by kernel_rfl, by kernel_rfl, by kernel_rfl, by kernel_rfl, by kernel_rfl, by kernel_rfl, by kernel_rfl, by kernel_rfl, by kernel_rfl, by kernel_rfl, by kernel_rfl, by kernel_rfl, by kernel_rfl, trivial⟩ (fun w hw => (Sat.less (.take .here (.take .here (.take .here (.take .here (.take .here (.take .here (.take (.there (.there .here)) (.drop .here (.drop .here .refl))))))))) hw)) ⟨true, H, rfl, rfl⟩
                            · replace H := bifF H h43
                              refine s_pure 98 (.bool false) (by kernel_rfl) (by kernel_rfl) (run_eq (v := .bool (!(decide (y15_1.dst = e0_1)))) (fun _ => by kernel_rfl) (congrArg Value.bool h43)) ?_
                              refine s_pure 99 (.pointer (some ⟨b15_2, 5, none⟩)) (by kernel_rfl) (by kernel_rfl) (fun _ => by kernel_rfl) ?_
                              refine s_load 100 (.int .i64 y15_1.ptr) (by kernel_rfl) (by kernel_rfl) (load1 (off := 5) (fun _ => by kernel_rfl) (holds_own (.there .here)) (by kernel_rfl)) ?_
                              refine s_pure 101 (.int .i64 e0_0) (by kernel_rfl) (by kernel_rfl) (fun _ => by kernel_rfl) ?_
                              refine s_pure 102 (.bool (!(decide (y15_1.ptr = e0_0)))) (by kernel_rfl) (by kernel_rfl) (fun _ => by kernel_rfl) ?_
                              refine s_pure 103 (.bool (!(decide (y15_1.ptr = e0_0)))) (by kernel_rfl) (by kernel_rfl) (fun _ => by kernel_rfl) ?_
                              refine ops_end ?_
                              refine At.env [(0, .int .i64 e0_0), (1, .int .i64 e0_1), (3, .int .i64 data), (4, .bool e3_4), (5, .bool there), (13, .bool e2_13), (14, .pointer (some ⟨b6_0_0, 0, none⟩)), (17, .pointer (some ⟨b14_12, 0, none⟩)), (19, .pointer (some ⟨b15_2, 0, none⟩)), (20, .pointer (some ⟨b16_1, 0, none⟩)), (21, .int .i64 e1_2), (22, .int .i64 (1)), (103, .bool (!(decide (y15_1.ptr = e0_0))))] ⟨by kernel_rfl, by kernel_rfl, by kernel_rfl, by kernel_rfl, by kernel_rfl, by kernel_rfl, by kernel_rfl, by kernel_rfl, by kernel_rfl, by kernel_rfl, by kernel_rfl, by kernel_rfl, by kernel_rfl, trivial⟩ ?_
                              refine at_round_normal ?_
                              exact at_join_mk [(0, .int .i64 e0_0), (1, .int .i64 e0_1), (3, .int .i64 data), (4, .bool e3_4), (5, .bool there), (13, .bool e2_13), (14, .pointer (some ⟨b6_0_0, 0, none⟩)), (17, .pointer (some ⟨b14_12, 0, none⟩)), (19, .pointer (some ⟨b15_2, 0, none⟩)), (20, .pointer (some ⟨b16_1, 0, none⟩)), (21, .int .i64 e1_2), (22, .int .i64 (1)), (103, .bool (!(decide (y15_1.ptr = e0_0))))] ((Asn.own b16_1 (.cells #[.int .i64 (8), .int .i64 (0), .int .i64 (0), .int .i64 (5), .int .i64 (1), .int .i64 (0), .int .i64 (0), .bool false, .slice none 0 0] 40 (0, 0))) :: (Asn.own b15_2 (.cells #[.int .i64 y15_1.kind, .int .i64 y15_1.src, .int .i64 y15_1.dst, .int .i64 y15_1.id, .int .i64 y15_1.line, .int .i64 y15_1.ptr, .int .i64 y15_1.state, .bool y15_1.flag, .slice a15_1_00 (List.length y15_1.data) c15_1_00] 40 (0, 0))) :: (IntsA a15_1_00 c15_1_00 y15_1.data) :: (Asn.own b14_12 (.cells #[.int .i64 y14_8.1.kind, .int .i64 y14_8.1.line, .int .i64 y14_8.1.id, .int .i64 y14_8.1.step, .int .i64 y14_8.1.state, .int .i64 y14_8.1.head, .slice a14_8_00 (List.length y14_8.1.data) c14_8_00, .int .i64 y14_8.1.next, .int .i64 y14_8.1.told] 35 (0, 0))) :: (ImmI a14_8_00 y14_8.1.data) :: (CacheA b6_0_0 y14_8.2.2) :: (RCacheA b6_0_1 y6_0.2) :: Γ) ⟨by kernel_rfl, by kernel_rfl, by kernel_rfl, by kernel_rfl, by kernel_rfl, by kernel_rfl, by kernel_rfl, by kernel_rfl, by kernel_rfl, by kernel_rfl, by kernel_rfl, by kernel_rfl, by kernel_rfl, trivial⟩ (fun w hw => (Sat.less (.take .here (.take .here (.take .here (.take .here (.take .here (.take .here (.take (.there (.there .here)) (.drop .here (.drop .here .refl))))))))) hw)) ⟨!(decide (y15_1.ptr = e0_0)), H, rfl, rfl⟩
                    · replace H := bifF H h39
                      refine at_false (t := !(decide (e0_1 = ((-1) : Int)))) (x := C8 [1,1,1,1,1,1,1,1,1,1,1,1,1,1,0,1,0,1,0,1,0]) (y := C8 [1,1,1,1,1,1,1,1,1,1,1,1,1,1,0,1,0,1,0,1,1]) (o := .tmp 84) (by kernel_rfl) (by kernel_rfl) (by kernel_rfl) h39 ?_
                      refine at_region (id := 25) 2 (by kernel_rfl) (by kernel_rfl) ?_
                      refine s_pure 113 (.int .i64 e0_0) (by kernel_rfl) (by kernel_rfl) (fun _ => by kernel_rfl) ?_
                      refine s_pure 21 (.int .i64 e0_0) (by kernel_rfl) (by kernel_rfl) (fun _ => by kernel_rfl) ?_
                      refine ops_end ?_
                      refine At.env [(0, .int .i64 e0_0), (1, .int .i64 e0_1), (3, .int .i64 data), (4, .bool e3_4), (5, .bool there), (13, .bool e2_13), (14, .pointer (some ⟨b6_0_0, 0, none⟩)), (17, .pointer (some ⟨b14_12, 0, none⟩)), (18, .bool y14_8.2.1), (19, .pointer (some ⟨b15_2, 0, none⟩)), (20, .pointer (some ⟨b16_1, 0, none⟩)), (21, .int .i64 e0_0), (22, .int .i64 (1))] ⟨by kernel_rfl, by kernel_rfl, by kernel_rfl, by kernel_rfl, by kernel_rfl, by kernel_rfl, by kernel_rfl, by kernel_rfl, by kernel_rfl, by kernel_rfl, by kernel_rfl, by kernel_rfl, by kernel_rfl, trivial⟩ ?_
                      refine at_round_normal ?_
                      exact at_join_mk [(0, .int .i64 e0_0), (1, .int .i64 e0_1), (3, .int .i64 data), (4, .bool e3_4), (5, .bool there), (13, .bool e2_13), (14, .pointer (some ⟨b6_0_0, 0, none⟩)), (17, .pointer (some ⟨b14_12, 0, none⟩)), (18, .bool y14_8.2.1), (19, .pointer (some ⟨b15_2, 0, none⟩)), (20, .pointer (some ⟨b16_1, 0, none⟩)), (21, .int .i64 e0_0), (22, .int .i64 (1))] ((IntsA a15_1_00 c15_1_00 y15_1.data) :: (ImmI a14_8_00 y14_8.1.data) :: (Asn.own b16_1 (.cells #[.int .i64 (8), .int .i64 (0), .int .i64 (0), .int .i64 (5), .int .i64 (1), .int .i64 (0), .int .i64 (0), .bool false, .slice none 0 0] 40 (0, 0))) :: (Asn.own b15_2 (.cells #[.int .i64 y15_1.kind, .int .i64 y15_1.src, .int .i64 y15_1.dst, .int .i64 y15_1.id, .int .i64 y15_1.line, .int .i64 y15_1.ptr, .int .i64 y15_1.state, .bool y15_1.flag, .slice a15_1_00 (List.length y15_1.data) c15_1_00] 40 (0, 0))) :: (Asn.own b14_12 (.cells #[.int .i64 y14_8.1.kind, .int .i64 y14_8.1.line, .int .i64 y14_8.1.id, .int .i64 y14_8.1.step, .int .i64 y14_8.1.state, .int .i64 y14_8.1.head, .slice a14_8_00 (List.length y14_8.1.data) c14_8_00, .int .i64 y14_8.1.next, .int .i64 y14_8.1.told] 35 (0, 0))) :: (CacheA b6_0_0 y14_8.2.2) :: (RCacheA b6_0_1 y6_0.2) :: Γ) ⟨by kernel_rfl, by kernel_rfl, by kernel_rfl, by kernel_rfl, by kernel_rfl, by kernel_rfl, by kernel_rfl, by kernel_rfl, by kernel_rfl, by kernel_rfl, by kernel_rfl, by kernel_rfl, by kernel_rfl, trivial⟩ (fun w hw => (Sat.less (.take (.there (.there .here)) (.take (.there (.there (.there .here))) (.take .here (.take .here (.take .here (.take .here (.take (.there (.there .here)) (.drop .here (.drop .here .refl))))))))) hw)) ⟨y14_8.2.1, e0_0, y15_1.kind, y15_1.src, y15_1.dst, y15_1.id, y15_1.line, y15_1.ptr, y15_1.state, y15_1.flag, y15_1.data, y14_8.1.kind, y14_8.1.line, y14_8.1.id, y14_8.1.step, y14_8.1.state, y14_8.1.head, y14_8.1.data, y14_8.1.next, y14_8.1.told, y14_8.2.2, a15_1_00, c15_1_00, a14_8_00, c14_8_00, H, rfl, rfl⟩
                · replace H := bifF H h30
                  refine at_false (t := there) (x := C8 [1,1,1,1,1,1,1,1,1,1,1,1,1,1,0,1,0]) (y := C8 [1,1,1,1,1,1,1,1,1,1,1,1,1,1,0,1,1]) (o := .tmp 82) (by kernel_rfl) (by kernel_rfl) (by kernel_rfl) h30 ?_
                  refine at_skip (by kernel_rfl) ?_
                  refine at_round_normal ?_
                  exact at_join_mk [(3, .int .i64 data), (4, .bool e3_4), (5, .bool there), (14, .pointer (some ⟨b6_0_0, 0, none⟩)), (17, .pointer (some ⟨b14_12, 0, none⟩)), (18, .bool y14_8.2.1), (19, .pointer (some ⟨b15_2, 0, none⟩)), (20, .pointer (some ⟨b16_1, 0, none⟩)), (21, .int .i64 e1_2), (22, .int .i64 e4_16)] ((IntsA a15_1_00 c15_1_00 y15_1.data) :: (ImmI a14_8_00 y14_8.1.data) :: (Asn.own b16_1 (.cells #[.int .i64 (8), .int .i64 (0), .int .i64 (0), .int .i64 (5), .int .i64 (1), .int .i64 (0), .int .i64 (0), .bool false, .slice none 0 0] 40 (0, 0))) :: (Asn.own b15_2 (.cells #[.int .i64 y15_1.kind, .int .i64 y15_1.src, .int .i64 y15_1.dst, .int .i64 y15_1.id, .int .i64 y15_1.line, .int .i64 y15_1.ptr, .int .i64 y15_1.state, .bool y15_1.flag, .slice a15_1_00 (List.length y15_1.data) c15_1_00] 40 (0, 0))) :: (Asn.own b14_12 (.cells #[.int .i64 y14_8.1.kind, .int .i64 y14_8.1.line, .int .i64 y14_8.1.id, .int .i64 y14_8.1.step, .int .i64 y14_8.1.state, .int .i64 y14_8.1.head, .slice a14_8_00 (List.length y14_8.1.data) c14_8_00, .int .i64 y14_8.1.next, .int .i64 y14_8.1.told] 35 (0, 0))) :: (CacheA b6_0_0 y14_8.2.2) :: (RCacheA b6_0_1 y6_0.2) :: Γ) ⟨by kernel_rfl, by kernel_rfl, by kernel_rfl, by kernel_rfl, by kernel_rfl, by kernel_rfl, by kernel_rfl, by kernel_rfl, by kernel_rfl, by kernel_rfl, trivial⟩ (fun w hw => (Sat.less (.take (.there (.there .here)) (.take (.there (.there (.there .here))) (.take .here (.take .here (.take .here (.take .here (.take (.there (.there .here)) (.drop .here (.drop .here .refl))))))))) hw)) ⟨y14_8.2.1, e1_2, e4_16, y15_1.kind, y15_1.src, y15_1.dst, y15_1.id, y15_1.line, y15_1.ptr, y15_1.state, y15_1.flag, y15_1.data, y14_8.1.kind, y14_8.1.line, y14_8.1.id, y14_8.1.step, y14_8.1.state, y14_8.1.head, y14_8.1.data, y14_8.1.next, y14_8.1.told, y14_8.2.2, a15_1_00, c15_1_00, a14_8_00, c14_8_00, H, rfl, rfl⟩
            · refine at_seq (x := C8 [1,1,1,1,1,1,1,1,1,0,0]) (y := C8 [1,1,1,1,1,1,1,1,1,0,1]) (by kernel_rfl) ?_
              refine at_region (id := 12) 1 (by kernel_rfl) (by kernel_rfl) ?_
              refine s_pure 56 (.bool there) (by kernel_rfl) (by kernel_rfl) (fun _ => by kernel_rfl) ?_
              refine ops_end ?_
              refine At.env [(0, .int .i64 e0_0), (1, .int .i64 e0_1), (2, .int .i64 e1_2), (3, .int .i64 data), (4, .bool e3_4), (5, .bool there), (13, .bool e2_13), (14, .pointer (some ⟨b6_0_0, 0, none⟩)), (16, .int .i64 e4_16), (56, .bool there)] ⟨by kernel_rfl, by kernel_rfl, by kernel_rfl, by kernel_rfl, by kernel_rfl, by kernel_rfl, by kernel_rfl, by kernel_rfl, by kernel_rfl, by kernel_rfl, trivial⟩ ?_
              refine at_then_normal ?_
              rcases Bool.eq_false_or_eq_true (there) with h44 | h44
              · replace H := bifT H h44
                refine at_true (t := there) (x := C8 [1,1,1,1,1,1,1,1,1,0,1,0]) (y := C8 [1,1,1,1,1,1,1,1,1,0,1,1]) (o := .tmp 56) (by kernel_rfl) (by kernel_rfl) (by kernel_rfl) h44 ?_
                refine at_region (id := 13) 8 (by kernel_rfl) (by kernel_rfl) ?_
                refine s_pure 57 (.pointer (some ⟨b6_0_0, 0, none⟩)) (by kernel_rfl) (by kernel_rfl) (fun _ => by kernel_rfl) ?_
                refine s_pure 58 (.int .i64 e0_0) (by kernel_rfl) (by kernel_rfl) (fun _ => by kernel_rfl) ?_
                refine s_pure 59 (.int .i64 e0_1) (by kernel_rfl) (by kernel_rfl) (fun _ => by kernel_rfl) ?_
                refine s_pure 60 (.bool e3_4) (by kernel_rfl) (by kernel_rfl) (fun _ => by kernel_rfl) ?_
                refine s_pure 61 (.int .i64 data) (by kernel_rfl) (by kernel_rfl) (fun _ => by kernel_rfl) ?_
                obtain ⟨l13_5, hl13_5, H⟩ := letE H
                refine s_step 62 (by kernel_rfl) (by kernel_rfl) (st_new_ints (T := 3) (xs := l13_5) 1 hl13_5 (fun _ => by kernel_rfl) (by kernel_rfl)) ?_
                rintro _ _ ⟨b13_5, rfl, rfl⟩
                obtain ⟨y13_6, hy13_6, H⟩ := bindE H
                refine s_call 63 15 #[.int .i64 (1), .int .i64 e0_0, .int .i64 e0_1, .bool e3_4, .slice (some ⟨b13_5, 0, none⟩) (List.length l13_5) 1] (by kernel_rfl) (by kernel_rfl) (fun _ => by kernel_rfl) (ENewF_tr (1 : Int) e0_0 e0_1 e3_4 (some ⟨b13_5, 0, none⟩) 1 l13_5 (RowsA.reads (k := 1) .here) y13_6 hy13_6) ?_
                rintro _ _ ⟨a13_6_00, c13_6_00, rfl, rfl⟩
                obtain ⟨y13_7, hy13_7, H⟩ := bindE H
                refine s_call 64 14 #[.pointer (some ⟨b6_0_0, 0, none⟩), .agg #[.int .i64 y13_6.fwd, .int .i64 y13_6.back, .int .i64 y13_6.line, .int .i64 y13_6.used, .bool y13_6.dirty, .slice a13_6_00 (List.length y13_6.data) c13_6_00]] (by kernel_rfl) (by kernel_rfl) (fun _ => by kernel_rfl) (Tr.conv (Γ' := (CacheA b6_0_0 y6_0.1) :: (IntsA a13_6_00 c13_6_00 y13_6.data) :: (IntsA (some ⟨b13_5, 0, none⟩) 1 l13_5) :: (RCacheA b6_0_1 y6_0.2) :: Γ) (fun w hw => (Sat.less (.take (.there (.there .here)) (.take .here (.take .here (.take .here .refl)))) hw)) (PutF_tr b6_0_0 y6_0.1 a13_6_00 c13_6_00 y13_6 (RowsA.reads (k := 1) .here) y13_7 hy13_7)) ?_
                rintro _ _ ⟨rfl, rfl⟩
                refine ops_end ?_
                refine At.env [(0, .int .i64 e0_0), (1, .int .i64 e0_1), (2, .int .i64 e1_2), (3, .int .i64 data), (4, .bool e3_4), (5, .bool there), (13, .bool e2_13), (14, .pointer (some ⟨b6_0_0, 0, none⟩)), (16, .int .i64 e4_16)] ⟨by kernel_rfl, by kernel_rfl, by kernel_rfl, by kernel_rfl, by kernel_rfl, by kernel_rfl, by kernel_rfl, by kernel_rfl, by kernel_rfl, trivial⟩ ?_
                refine at_round_normal ?_
                exact at_join_mk [(0, .int .i64 e0_0), (1, .int .i64 e0_1), (2, .int .i64 e1_2), (3, .int .i64 data), (4, .bool e3_4), (5, .bool there), (13, .bool e2_13), (14, .pointer (some ⟨b6_0_0, 0, none⟩)), (16, .int .i64 e4_16)] ((CacheA b6_0_0 y13_7.2) :: (RCacheA b6_0_1 y6_0.2) :: Γ) ⟨by kernel_rfl, by kernel_rfl, by kernel_rfl, by kernel_rfl, by kernel_rfl, by kernel_rfl, by kernel_rfl, by kernel_rfl, by kernel_rfl, trivial⟩ (fun w hw => (Sat.less (.take .here (.take (.there (.there .here)) (.drop .here (.drop .here .refl)))) hw)) ⟨y13_7.2, H, rfl, rfl⟩
              · replace H := bifF H h44
                refine at_false (t := there) (x := C8 [1,1,1,1,1,1,1,1,1,0,1,0]) (y := C8 [1,1,1,1,1,1,1,1,1,0,1,1]) (o := .tmp 56) (by kernel_rfl) (by kernel_rfl) (by kernel_rfl) h44 ?_
                refine at_skip (by kernel_rfl) ?_
                refine at_round_normal ?_
                exact at_join_mk [(0, .int .i64 e0_0), (1, .int .i64 e0_1), (2, .int .i64 e1_2), (3, .int .i64 data), (4, .bool e3_4), (5, .bool there), (13, .bool e2_13), (14, .pointer (some ⟨b6_0_0, 0, none⟩)), (16, .int .i64 e4_16)] ((CacheA b6_0_0 y6_0.1) :: (RCacheA b6_0_1 y6_0.2) :: Γ) ⟨by kernel_rfl, by kernel_rfl, by kernel_rfl, by kernel_rfl, by kernel_rfl, by kernel_rfl, by kernel_rfl, by kernel_rfl, by kernel_rfl, trivial⟩ (fun w hw => (Sat.less (.take .here (.take .here .refl)) hw)) ⟨y6_0.1, H, rfl, rfl⟩
          · refine at_seq (x := C8 [1,1,1,1,1,1,1,1,0,0]) (y := C8 [1,1,1,1,1,1,1,1,0,1]) (by kernel_rfl) ?_
            refine at_region (id := 10) 1 (by kernel_rfl) (by kernel_rfl) ?_
            refine s_pure 55 (.bool e3_4) (by kernel_rfl) (by kernel_rfl) (fun _ => by kernel_rfl) ?_
            refine ops_end ?_
            refine At.env [(0, .int .i64 e0_0), (1, .int .i64 e0_1), (2, .int .i64 e1_2), (3, .int .i64 data), (4, .bool e3_4), (5, .bool there), (13, .bool e2_13), (14, .pointer (some ⟨b6_0_0, 0, none⟩)), (16, .int .i64 (1)), (55, .bool e3_4)] ⟨by kernel_rfl, by kernel_rfl, by kernel_rfl, by kernel_rfl, by kernel_rfl, by kernel_rfl, by kernel_rfl, by kernel_rfl, by kernel_rfl, by kernel_rfl, trivial⟩ ?_
            refine at_then_normal ?_
            rcases Bool.eq_false_or_eq_true (e3_4) with h45 | h45
            · replace H := bifT H h45
              refine at_true (t := e3_4) (x := C8 [1,1,1,1,1,1,1,1,0,1,0]) (y := C8 [1,1,1,1,1,1,1,1,0,1,1]) (o := .tmp 55) (by kernel_rfl) (by kernel_rfl) (by kernel_rfl) h45 ?_
              refine at_region (id := 11) 1 (by kernel_rfl) (by kernel_rfl) ?_
              refine s_pure 16 (.int .i64 (2)) (by kernel_rfl) (by kernel_rfl) (fun _ => by kernel_rfl) ?_
              refine ops_end ?_
              refine At.env [(0, .int .i64 e0_0), (1, .int .i64 e0_1), (2, .int .i64 e1_2), (3, .int .i64 data), (4, .bool e3_4), (5, .bool there), (13, .bool e2_13), (14, .pointer (some ⟨b6_0_0, 0, none⟩)), (16, .int .i64 (2))] ⟨by kernel_rfl, by kernel_rfl, by kernel_rfl, by kernel_rfl, by kernel_rfl, by kernel_rfl, by kernel_rfl, by kernel_rfl, by kernel_rfl, trivial⟩ ?_
              refine at_round_normal ?_
              exact at_join_mk [(0, .int .i64 e0_0), (1, .int .i64 e0_1), (2, .int .i64 e1_2), (3, .int .i64 data), (4, .bool e3_4), (5, .bool there), (13, .bool e2_13), (14, .pointer (some ⟨b6_0_0, 0, none⟩)), (16, .int .i64 2)] ((CacheA b6_0_0 y6_0.1) :: (RCacheA b6_0_1 y6_0.2) :: Γ) ⟨by kernel_rfl, by kernel_rfl, by kernel_rfl, by kernel_rfl, by kernel_rfl, by kernel_rfl, by kernel_rfl, by kernel_rfl, by kernel_rfl, trivial⟩ (fun w hw => (Sat.less (.take .here (.take .here .refl)) hw)) ⟨2, H, rfl, rfl⟩
            · replace H := bifF H h45
              refine at_false (t := e3_4) (x := C8 [1,1,1,1,1,1,1,1,0,1,0]) (y := C8 [1,1,1,1,1,1,1,1,0,1,1]) (o := .tmp 55) (by kernel_rfl) (by kernel_rfl) (by kernel_rfl) h45 ?_
              refine at_skip (by kernel_rfl) ?_
              refine at_round_normal ?_
              exact at_join_mk [(0, .int .i64 e0_0), (1, .int .i64 e0_1), (2, .int .i64 e1_2), (3, .int .i64 data), (4, .bool e3_4), (5, .bool there), (13, .bool e2_13), (14, .pointer (some ⟨b6_0_0, 0, none⟩)), (16, .int .i64 1)] ((CacheA b6_0_0 y6_0.1) :: (RCacheA b6_0_1 y6_0.2) :: Γ) ⟨by kernel_rfl, by kernel_rfl, by kernel_rfl, by kernel_rfl, by kernel_rfl, by kernel_rfl, by kernel_rfl, by kernel_rfl, by kernel_rfl, trivial⟩ (fun w hw => (Sat.less (.take .here (.take .here .refl)) hw)) ⟨1, H, rfl, rfl⟩
        · refine at_region (id := 5) 5 (by kernel_rfl) (by kernel_rfl) ?_
          refine s_pure 45 (.bool dirty) (by kernel_rfl) (by kernel_rfl) (fun _ => by kernel_rfl) ?_
          rcases Bool.eq_false_or_eq_true (dirty) with h46 | h46
          · replace H := bifT H h46
            refine s_pure 46 (.bool true) (by kernel_rfl) (by kernel_rfl) (run_eq (v := .bool (dirty)) (fun _ => by kernel_rfl) (congrArg Value.bool h46)) ?_
            refine s_pure 47 (.bool e2_13) (by kernel_rfl) (by kernel_rfl) (fun _ => by kernel_rfl) ?_
            refine s_pure 48 (.bool e2_13) (by kernel_rfl) (by kernel_rfl) (fun _ => by kernel_rfl) ?_
            refine s_pure 4 (.bool e2_13) (by kernel_rfl) (by kernel_rfl) (fun _ => by kernel_rfl) ?_
            refine ops_end ?_
            refine At.env [(0, .int .i64 e0_0), (1, .int .i64 e0_1), (2, .int .i64 e1_2), (3, .int .i64 data), (4, .bool e2_13), (5, .bool there), (13, .bool e2_13)] ⟨by kernel_rfl, by kernel_rfl, by kernel_rfl, by kernel_rfl, by kernel_rfl, by kernel_rfl, by kernel_rfl, trivial⟩ ?_
            refine at_round_normal ?_
            exact at_join_mk [(0, .int .i64 e0_0), (1, .int .i64 e0_1), (2, .int .i64 e1_2), (3, .int .i64 data), (4, .bool e2_13), (5, .bool there), (13, .bool e2_13)] (Γ) ⟨by kernel_rfl, by kernel_rfl, by kernel_rfl, by kernel_rfl, by kernel_rfl, by kernel_rfl, by kernel_rfl, trivial⟩ (fun w hw => (Sat.less .refl hw)) ⟨e2_13, H, rfl, rfl⟩
          · replace H := bifF H h46
            refine s_pure 46 (.bool false) (by kernel_rfl) (by kernel_rfl) (run_eq (v := .bool (dirty)) (fun _ => by kernel_rfl) (congrArg Value.bool h46)) ?_
            refine s_pass 47 (by kernel_rfl) (by kernel_rfl) ?_
            refine s_pure 48 (.bool false) (by kernel_rfl) (by kernel_rfl) (fun _ => by kernel_rfl) ?_
            refine s_pure 4 (.bool false) (by kernel_rfl) (by kernel_rfl) (fun _ => by kernel_rfl) ?_
            refine ops_end ?_
            refine At.env [(0, .int .i64 e0_0), (1, .int .i64 e0_1), (2, .int .i64 e1_2), (3, .int .i64 data), (4, .bool false), (5, .bool there), (13, .bool e2_13)] ⟨by kernel_rfl, by kernel_rfl, by kernel_rfl, by kernel_rfl, by kernel_rfl, by kernel_rfl, by kernel_rfl, trivial⟩ ?_
            refine at_round_normal ?_
            exact at_join_mk [(0, .int .i64 e0_0), (1, .int .i64 e0_1), (2, .int .i64 e1_2), (3, .int .i64 data), (4, .bool false), (5, .bool there), (13, .bool e2_13)] (Γ) ⟨by kernel_rfl, by kernel_rfl, by kernel_rfl, by kernel_rfl, by kernel_rfl, by kernel_rfl, by kernel_rfl, trivial⟩ (fun w hw => (Sat.less .refl hw)) ⟨false, H, rfl, rfl⟩
      · refine at_region (id := 4) 7 (by kernel_rfl) (by kernel_rfl) ?_
        refine s_pure 39 (.int .i64 e0_0) (by kernel_rfl) (by kernel_rfl) (fun _ => by kernel_rfl) ?_
        refine s_pure 40 (.bool (decide (e0_0 = ((-1) : Int)))) (by kernel_rfl) (by kernel_rfl) (fun _ => by kernel_rfl) ?_
        rcases Bool.eq_false_or_eq_true (decide (e0_0 = ((-1) : Int))) with h47 | h47
        · replace H := bifT H h47
          refine s_pure 41 (.bool true) (by kernel_rfl) (by kernel_rfl) (run_eq (v := .bool (decide (e0_0 = ((-1) : Int)))) (fun _ => by kernel_rfl) (congrArg Value.bool h47)) ?_
          refine s_pure 42 (.int .i64 e0_1) (by kernel_rfl) (by kernel_rfl) (fun _ => by kernel_rfl) ?_
          refine s_pure 43 (.bool (decide (e0_1 = ((-1) : Int)))) (by kernel_rfl) (by kernel_rfl) (fun _ => by kernel_rfl) ?_
          refine s_pure 44 (.bool (decide (e0_1 = ((-1) : Int)))) (by kernel_rfl) (by kernel_rfl) (fun _ => by kernel_rfl) ?_
          refine s_pure 13 (.bool (decide (e0_1 = ((-1) : Int)))) (by kernel_rfl) (by kernel_rfl) (fun _ => by kernel_rfl) ?_
          refine ops_end ?_
          refine At.env [(0, .int .i64 e0_0), (1, .int .i64 e0_1), (2, .int .i64 e1_2), (3, .int .i64 data), (4, .bool dirty), (5, .bool there), (13, .bool (decide (e0_1 = ((-1) : Int))))] ⟨by kernel_rfl, by kernel_rfl, by kernel_rfl, by kernel_rfl, by kernel_rfl, by kernel_rfl, by kernel_rfl, trivial⟩ ?_
          refine at_round_normal ?_
          exact at_join_mk [(0, .int .i64 e0_0), (1, .int .i64 e0_1), (2, .int .i64 e1_2), (3, .int .i64 data), (4, .bool dirty), (5, .bool there), (13, .bool (decide (e0_1 = ((-1) : Int))))] (Γ) ⟨by kernel_rfl, by kernel_rfl, by kernel_rfl, by kernel_rfl, by kernel_rfl, by kernel_rfl, by kernel_rfl, trivial⟩ (fun w hw => (Sat.less .refl hw)) ⟨decide (e0_1 = ((-1) : Int)), H, rfl, rfl⟩
        · replace H := bifF H h47
          refine s_pure 41 (.bool false) (by kernel_rfl) (by kernel_rfl) (run_eq (v := .bool (decide (e0_0 = ((-1) : Int)))) (fun _ => by kernel_rfl) (congrArg Value.bool h47)) ?_
          refine s_pass 42 (by kernel_rfl) (by kernel_rfl) ?_
          refine s_pass 43 (by kernel_rfl) (by kernel_rfl) ?_
          refine s_pure 44 (.bool false) (by kernel_rfl) (by kernel_rfl) (fun _ => by kernel_rfl) ?_
          refine s_pure 13 (.bool false) (by kernel_rfl) (by kernel_rfl) (fun _ => by kernel_rfl) ?_
          refine ops_end ?_
          refine At.env [(0, .int .i64 e0_0), (1, .int .i64 e0_1), (2, .int .i64 e1_2), (3, .int .i64 data), (4, .bool dirty), (5, .bool there), (13, .bool false)] ⟨by kernel_rfl, by kernel_rfl, by kernel_rfl, by kernel_rfl, by kernel_rfl, by kernel_rfl, by kernel_rfl, trivial⟩ ?_
          refine at_round_normal ?_
          exact at_join_mk [(0, .int .i64 e0_0), (1, .int .i64 e0_1), (2, .int .i64 e1_2), (3, .int .i64 data), (4, .bool dirty), (5, .bool there), (13, .bool false)] (Γ) ⟨by kernel_rfl, by kernel_rfl, by kernel_rfl, by kernel_rfl, by kernel_rfl, by kernel_rfl, by kernel_rfl, trivial⟩ (fun w hw => (Sat.less .refl hw)) ⟨false, H, rfl, rfl⟩
    · refine at_seq (x := C8 [1,1,0,0]) (y := C8 [1,1,0,1]) (by kernel_rfl) ?_
      refine at_region (id := 2) 2 (by kernel_rfl) (by kernel_rfl) ?_
      refine s_pure 37 (.int .i64 e0_1) (by kernel_rfl) (by kernel_rfl) (fun _ => by kernel_rfl) ?_
      refine s_pure 38 (.bool (decide (e0_1 = ((-1) : Int)))) (by kernel_rfl) (by kernel_rfl) (fun _ => by kernel_rfl) ?_
      refine ops_end ?_
      refine At.env [(0, .int .i64 e0_0), (1, .int .i64 e0_1), (2, .int .i64 e0_2), (3, .int .i64 data), (4, .bool dirty), (5, .bool there), (38, .bool (decide (e0_1 = ((-1) : Int))))] ⟨by kernel_rfl, by kernel_rfl, by kernel_rfl, by kernel_rfl, by kernel_rfl, by kernel_rfl, by kernel_rfl, trivial⟩ ?_
      refine at_then_normal ?_
      rcases Bool.eq_false_or_eq_true (decide (e0_1 = ((-1) : Int))) with h48 | h48
      · replace H := bifT H h48
        refine at_true (t := decide (e0_1 = ((-1) : Int))) (x := C8 [1,1,0,1,0]) (y := C8 [1,1,0,1,1]) (o := .tmp 38) (by kernel_rfl) (by kernel_rfl) (by kernel_rfl) h48 ?_
        refine at_region (id := 3) 1 (by kernel_rfl) (by kernel_rfl) ?_
        refine s_pure 2 (.int .i64 (2)) (by kernel_rfl) (by kernel_rfl) (fun _ => by kernel_rfl) ?_
        refine ops_end ?_
        refine At.env [(0, .int .i64 e0_0), (1, .int .i64 e0_1), (2, .int .i64 (2)), (3, .int .i64 data), (4, .bool dirty), (5, .bool there)] ⟨by kernel_rfl, by kernel_rfl, by kernel_rfl, by kernel_rfl, by kernel_rfl, by kernel_rfl, trivial⟩ ?_
        refine at_round_normal ?_
        exact at_join_mk [(0, .int .i64 e0_0), (1, .int .i64 e0_1), (2, .int .i64 2), (3, .int .i64 data), (4, .bool dirty), (5, .bool there)] (Γ) ⟨by kernel_rfl, by kernel_rfl, by kernel_rfl, by kernel_rfl, by kernel_rfl, by kernel_rfl, trivial⟩ (fun w hw => (Sat.less .refl hw)) ⟨2, H, rfl, rfl⟩
      · replace H := bifF H h48
        refine at_false (t := decide (e0_1 = ((-1) : Int))) (x := C8 [1,1,0,1,0]) (y := C8 [1,1,0,1,1]) (o := .tmp 38) (by kernel_rfl) (by kernel_rfl) (by kernel_rfl) h48 ?_
        refine at_skip (by kernel_rfl) ?_
        refine at_round_normal ?_
        exact at_join_mk [(0, .int .i64 e0_0), (1, .int .i64 e0_1), (2, .int .i64 e0_2), (3, .int .i64 data), (4, .bool dirty), (5, .bool there)] (Γ) ⟨by kernel_rfl, by kernel_rfl, by kernel_rfl, by kernel_rfl, by kernel_rfl, by kernel_rfl, trivial⟩ (fun w hw => (Sat.less .refl hw)) ⟨e0_2, H, rfl, rfl⟩
  · refine at_region_draw (id := 1) (by kernel_rfl) (by kernel_rfl) ?_
    refine d_pure 1 26 (.int .i64 fwd) (by kernel_rfl) (by kernel_rfl) (by kernel_rfl) (fun _ => by kernel_rfl) ?_
    obtain ⟨y1_2, hy1_2, H⟩ := bindE H
    refine d_quiet 2 27 (.int .i64 y1_2) 22 #[.int .i64 fwd, .int .i64 (3)] (by kernel_rfl) (by kernel_rfl) (by kernel_rfl) (fun _ => by kernel_rfl) (fun _ => (WithinF_tr fwd (3 : Int) y1_2 hy1_2)) ?_
    refine d_pure 6 31 (.int .i64 back) (by kernel_rfl) (by kernel_rfl) (by kernel_rfl) (fun _ => by kernel_rfl) ?_
    obtain ⟨y1_7, hy1_7, H⟩ := bindE H
    refine d_quiet 7 32 (.int .i64 y1_7) 22 #[.int .i64 back, .int .i64 (3)] (by kernel_rfl) (by kernel_rfl) (by kernel_rfl) (fun _ => by kernel_rfl) (fun _ => (WithinF_tr back (3 : Int) y1_7 hy1_7)) ?_
    refine d_pure 10 35 (.int .i64 told) (by kernel_rfl) (by kernel_rfl) (by kernel_rfl) (fun _ => by kernel_rfl) ?_
    obtain ⟨y1_11, hy1_11, H⟩ := bindE H
    refine d_quiet 11 36 (.int .i64 y1_11) 22 #[.int .i64 told, .int .i64 (2)] (by kernel_rfl) (by kernel_rfl) (by kernel_rfl) (fun _ => by kernel_rfl) (fun _ => (WithinF_tr told (2 : Int) y1_11 hy1_11)) ?_
    refine draw_turns 0 [5] (by kernel_rfl) (turns_cons ?_ (turns_cons ?_ turns_nil))
    · obtain ⟨l1_0, hl1_0, H⟩ := letE H
      refine t_step 0 25 [] [11, 10, 7, 6, 2, 1] [] (by kernel_rfl) (by kernel_rfl) (by kernel_rfl) (st_new_ints (T := 3) (xs := l1_0) 3 hl1_0 (fun _ => by kernel_rfl) (by kernel_rfl)) ?_
      rintro _ _ ⟨b1_0, rfl, rfl⟩
      refine ⟨stable_nil, ?_⟩
      obtain ⟨hc1_3_0, H⟩ := chkE H
      refine rows_at_draw .here (by have := hc1_3_0; simp only [ints_length]; omega) ?_
      intro bb1 oo1 ha1
      refine d_pure 3 28 (.pointer (some ⟨bb1, oo1 + ((y1_2).toNat * 1 + 0), none⟩)) (by kernel_rfl) (by kernel_rfl) (by kernel_rfl) (index_at (t := 30) (sz := 1) (E := 3) (a := some ⟨b1_0, 0, none⟩) (m := (List.length l1_0)) (c := 3) (b := bb1) (off := oo1) (i := (y1_2).toNat) (tinfo 3) (fun _ => by kernel_rfl) (by kernel_rfl) (by kernel_rfl) (by kernel_rfl) ha1 (idx_cast hc1_3_0) (idx_nat hc1_3_0) rfl) ?_
      refine d_load 4 29 (.int .i64 (nth l1_0 y1_2)) (by kernel_rfl) (by kernel_rfl) (by kernel_rfl) (load1_at (off := oo1 + ((y1_2).toNat * 1 + 0)) (v := .int .i64 (nth l1_0 y1_2)) (fun _ => by kernel_rfl) rfl (reads_cell (k := 1) (RowsA.reads (k := 1) .here) (ints_rows _) ha1 (nth_row hc1_3_0) (show [(.int .i64 (nth l1_0 y1_2) : Value)][0]? = some _ from rfl))) ?_
      refine draw_turns 5 [12] (by kernel_rfl) (turns_cons ?_ (turns_cons ?_ turns_nil))
      · obtain ⟨l1_5, hl1_5, H⟩ := letE H
        refine t_step 5 30 [] [3, 11, 10, 7, 6, 2, 1] [4] (by kernel_rfl) (by kernel_rfl) (by kernel_rfl) (st_new_ints (T := 3) (xs := l1_5) 3 hl1_5 (fun _ => by kernel_rfl) (by kernel_rfl)) ?_
        rintro _ _ ⟨b1_5, rfl, rfl⟩
        refine ⟨(stable_cons 4 29 (.int .i64 (nth l1_0 y1_2)) (by kernel_rfl) (by kernel_rfl) (by kernel_rfl) (load1_at (off := oo1 + ((y1_2).toNat * 1 + 0)) (v := .int .i64 (nth l1_0 y1_2)) (fun _ => by kernel_rfl) rfl (reads_cell (k := 1) (RowsA.reads (k := 1) (.there .here)) (ints_rows _) ha1 (nth_row hc1_3_0) (show [(.int .i64 (nth l1_0 y1_2) : Value)][0]? = some _ from rfl))) stable_nil), ?_⟩
        obtain ⟨hc1_8_0, H⟩ := chkE H
        refine rows_at_draw .here (by have := hc1_8_0; simp only [ints_length]; omega) ?_
        intro bb2 oo2 ha2
        refine d_pure 8 33 (.pointer (some ⟨bb2, oo2 + ((y1_7).toNat * 1 + 0), none⟩)) (by kernel_rfl) (by kernel_rfl) (by kernel_rfl) (index_at (t := 30) (sz := 1) (E := 3) (a := some ⟨b1_5, 0, none⟩) (m := (List.length l1_5)) (c := 3) (b := bb2) (off := oo2) (i := (y1_7).toNat) (tinfo 3) (fun _ => by kernel_rfl) (by kernel_rfl) (by kernel_rfl) (by kernel_rfl) ha2 (idx_cast hc1_8_0) (idx_nat hc1_8_0) rfl) ?_
        refine d_load 9 34 (.int .i64 (nth l1_5 y1_7)) (by kernel_rfl) (by kernel_rfl) (by kernel_rfl) (load1_at (off := oo2 + ((y1_7).toNat * 1 + 0)) (v := .int .i64 (nth l1_5 y1_7)) (fun _ => by kernel_rfl) rfl (reads_cell (k := 1) (RowsA.reads (k := 1) .here) (ints_rows _) ha2 (nth_row hc1_8_0) (show [(.int .i64 (nth l1_5 y1_7) : Value)][0]? = some _ from rfl))) ?_
        refine d_step 12 0 [4, 11, 0, 1, 2, 3, 10, 7, 6] [8] [9] (by kernel_rfl) (by kernel_rfl) (by kernel_rfl) (StepTo.pure (v := .int .i64 (nth l1_0 y1_2)) (fun _ => by kernel_rfl)) ?_
        rintro _ _ ⟨rfl, rfl⟩
        refine ⟨(stable_cons 9 34 (.int .i64 (nth l1_5 y1_7)) (by kernel_rfl) (by kernel_rfl) (by kernel_rfl) (load1_at (off := oo2 + ((y1_7).toNat * 1 + 0)) (v := .int .i64 (nth l1_5 y1_7)) (fun _ => by kernel_rfl) rfl (reads_cell (k := 1) (RowsA.reads (k := 1) .here) (ints_rows _) ha2 (nth_row hc1_8_0) (show [(.int .i64 (nth l1_5 y1_7) : Value)][0]? = some _ from rfl))) stable_nil), ?_⟩
        refine d_pure 13 1 (.int .i64 (nth l1_5 y1_7)) (by kernel_rfl) (by kernel_rfl) (by kernel_rfl) (fun _ => by kernel_rfl) ?_
        refine d_pure 14 2 (.int .i64 y1_11) (by kernel_rfl) (by kernel_rfl) (by kernel_rfl) (fun _ => by kernel_rfl) ?_
        refine draw_end (by kernel_rfl) ?_
        refine At.env [(0, .int .i64 (nth l1_0 y1_2)), (1, .int .i64 (nth l1_5 y1_7)), (2, .int .i64 y1_11), (3, .int .i64 data), (4, .bool dirty), (5, .bool there)] ⟨by kernel_rfl, by kernel_rfl, by kernel_rfl, by kernel_rfl, by kernel_rfl, by kernel_rfl, trivial⟩ ?_
        refine at_round_normal ?_
        exact at_join_mk [(0, .int .i64 (nth l1_0 y1_2)), (1, .int .i64 (nth l1_5 y1_7)), (2, .int .i64 y1_11), (3, .int .i64 data), (4, .bool dirty), (5, .bool there)] (Γ) ⟨by kernel_rfl, by kernel_rfl, by kernel_rfl, by kernel_rfl, by kernel_rfl, by kernel_rfl, trivial⟩ (fun w hw => (Sat.less (.drop .here (.drop .here .refl)) hw)) ⟨nth l1_0 y1_2, nth l1_5 y1_7, y1_11, H, rfl, rfl⟩
      · refine t_step 12 0 [4, 11, 0, 1, 2, 3, 10, 7, 6] [] [] (by kernel_rfl) (by kernel_rfl) (by kernel_rfl) (StepTo.pure (v := .int .i64 (nth l1_0 y1_2)) (fun _ => by kernel_rfl)) ?_
        rintro _ _ ⟨rfl, rfl⟩
        refine ⟨stable_nil, ?_⟩
        obtain ⟨l1_5, hl1_5, H⟩ := letE H
        refine d_step 5 30 [] [] [] (by kernel_rfl) (by kernel_rfl) (by kernel_rfl) (st_new_ints (T := 3) (xs := l1_5) 3 hl1_5 (fun _ => by kernel_rfl) (by kernel_rfl)) ?_
        rintro _ _ ⟨b1_5, rfl, rfl⟩
        refine ⟨stable_nil, ?_⟩
        obtain ⟨hc1_8_0, H⟩ := chkE H
        refine rows_at_draw .here (by have := hc1_8_0; simp only [ints_length]; omega) ?_
        intro bb3 oo3 ha3
        refine d_pure 8 33 (.pointer (some ⟨bb3, oo3 + ((y1_7).toNat * 1 + 0), none⟩)) (by kernel_rfl) (by kernel_rfl) (by kernel_rfl) (index_at (t := 30) (sz := 1) (E := 3) (a := some ⟨b1_5, 0, none⟩) (m := (List.length l1_5)) (c := 3) (b := bb3) (off := oo3) (i := (y1_7).toNat) (tinfo 3) (fun _ => by kernel_rfl) (by kernel_rfl) (by kernel_rfl) (by kernel_rfl) ha3 (idx_cast hc1_8_0) (idx_nat hc1_8_0) rfl) ?_
        refine d_load 9 34 (.int .i64 (nth l1_5 y1_7)) (by kernel_rfl) (by kernel_rfl) (by kernel_rfl) (load1_at (off := oo3 + ((y1_7).toNat * 1 + 0)) (v := .int .i64 (nth l1_5 y1_7)) (fun _ => by kernel_rfl) rfl (reads_cell (k := 1) (RowsA.reads (k := 1) .here) (ints_rows _) ha3 (nth_row hc1_8_0) (show [(.int .i64 (nth l1_5 y1_7) : Value)][0]? = some _ from rfl))) ?_
        refine d_pure 13 1 (.int .i64 (nth l1_5 y1_7)) (by kernel_rfl) (by kernel_rfl) (by kernel_rfl) (fun _ => by kernel_rfl) ?_
        refine d_pure 14 2 (.int .i64 y1_11) (by kernel_rfl) (by kernel_rfl) (by kernel_rfl) (fun _ => by kernel_rfl) ?_
        refine draw_end (by kernel_rfl) ?_
        refine At.env [(0, .int .i64 (nth l1_0 y1_2)), (1, .int .i64 (nth l1_5 y1_7)), (2, .int .i64 y1_11), (3, .int .i64 data), (4, .bool dirty), (5, .bool there)] ⟨by kernel_rfl, by kernel_rfl, by kernel_rfl, by kernel_rfl, by kernel_rfl, by kernel_rfl, trivial⟩ ?_
        refine at_round_normal ?_
        exact at_join_mk [(0, .int .i64 (nth l1_0 y1_2)), (1, .int .i64 (nth l1_5 y1_7)), (2, .int .i64 y1_11), (3, .int .i64 data), (4, .bool dirty), (5, .bool there)] (Γ) ⟨by kernel_rfl, by kernel_rfl, by kernel_rfl, by kernel_rfl, by kernel_rfl, by kernel_rfl, trivial⟩ (fun w hw => (Sat.less (.drop .here (.drop .here .refl)) hw)) ⟨nth l1_0 y1_2, nth l1_5 y1_7, y1_11, H, rfl, rfl⟩
    · obtain ⟨l1_0, hl1_0, H⟩ := letE H
      obtain ⟨hc1_3_0, H⟩ := chkE H
      obtain ⟨l1_5, hl1_5, H⟩ := letE H
      refine t_step 5 30 [] [11, 10, 7, 6, 2, 1] [] (by kernel_rfl) (by kernel_rfl) (by kernel_rfl) (st_new_ints (T := 3) (xs := l1_5) 3 hl1_5 (fun _ => by kernel_rfl) (by kernel_rfl)) ?_
      rintro _ _ ⟨b1_5, rfl, rfl⟩
      refine ⟨stable_nil, ?_⟩
      obtain ⟨hc1_8_0, H⟩ := chkE H
      refine rows_at_draw .here (by have := hc1_8_0; simp only [ints_length]; omega) ?_
      intro bb4 oo4 ha4
      refine d_pure 8 33 (.pointer (some ⟨bb4, oo4 + ((y1_7).toNat * 1 + 0), none⟩)) (by kernel_rfl) (by kernel_rfl) (by kernel_rfl) (index_at (t := 30) (sz := 1) (E := 3) (a := some ⟨b1_5, 0, none⟩) (m := (List.length l1_5)) (c := 3) (b := bb4) (off := oo4) (i := (y1_7).toNat) (tinfo 3) (fun _ => by kernel_rfl) (by kernel_rfl) (by kernel_rfl) (by kernel_rfl) ha4 (idx_cast hc1_8_0) (idx_nat hc1_8_0) rfl) ?_
      refine d_load 9 34 (.int .i64 (nth l1_5 y1_7)) (by kernel_rfl) (by kernel_rfl) (by kernel_rfl) (load1_at (off := oo4 + ((y1_7).toNat * 1 + 0)) (v := .int .i64 (nth l1_5 y1_7)) (fun _ => by kernel_rfl) rfl (reads_cell (k := 1) (RowsA.reads (k := 1) .here) (ints_rows _) ha4 (nth_row hc1_8_0) (show [(.int .i64 (nth l1_5 y1_7) : Value)][0]? = some _ from rfl))) ?_
      refine d_step 0 25 [] [8, 11, 10, 7, 6, 2, 1] [9] (by kernel_rfl) (by kernel_rfl) (by kernel_rfl) (st_new_ints (T := 3) (xs := l1_0) 3 hl1_0 (fun _ => by kernel_rfl) (by kernel_rfl)) ?_
      rintro _ _ ⟨b1_0, rfl, rfl⟩
      refine ⟨(stable_cons 9 34 (.int .i64 (nth l1_5 y1_7)) (by kernel_rfl) (by kernel_rfl) (by kernel_rfl) (load1_at (off := oo4 + ((y1_7).toNat * 1 + 0)) (v := .int .i64 (nth l1_5 y1_7)) (fun _ => by kernel_rfl) rfl (reads_cell (k := 1) (RowsA.reads (k := 1) (.there .here)) (ints_rows _) ha4 (nth_row hc1_8_0) (show [(.int .i64 (nth l1_5 y1_7) : Value)][0]? = some _ from rfl))) stable_nil), ?_⟩
      refine rows_at_draw .here (by have := hc1_3_0; simp only [ints_length]; omega) ?_
      intro bb5 oo5 ha5
      refine d_pure 3 28 (.pointer (some ⟨bb5, oo5 + ((y1_2).toNat * 1 + 0), none⟩)) (by kernel_rfl) (by kernel_rfl) (by kernel_rfl) (index_at (t := 30) (sz := 1) (E := 3) (a := some ⟨b1_0, 0, none⟩) (m := (List.length l1_0)) (c := 3) (b := bb5) (off := oo5) (i := (y1_2).toNat) (tinfo 3) (fun _ => by kernel_rfl) (by kernel_rfl) (by kernel_rfl) (by kernel_rfl) ha5 (idx_cast hc1_3_0) (idx_nat hc1_3_0) rfl) ?_
      refine d_load 4 29 (.int .i64 (nth l1_0 y1_2)) (by kernel_rfl) (by kernel_rfl) (by kernel_rfl) (load1_at (off := oo5 + ((y1_2).toNat * 1 + 0)) (v := .int .i64 (nth l1_0 y1_2)) (fun _ => by kernel_rfl) rfl (reads_cell (k := 1) (RowsA.reads (k := 1) .here) (ints_rows _) ha5 (nth_row hc1_3_0) (show [(.int .i64 (nth l1_0 y1_2) : Value)][0]? = some _ from rfl))) ?_
      refine d_step 12 0 [4, 11, 0, 1, 2, 3, 10, 7, 6] [8] [9] (by kernel_rfl) (by kernel_rfl) (by kernel_rfl) (StepTo.pure (v := .int .i64 (nth l1_0 y1_2)) (fun _ => by kernel_rfl)) ?_
      rintro _ _ ⟨rfl, rfl⟩
      refine ⟨(stable_cons 9 34 (.int .i64 (nth l1_5 y1_7)) (by kernel_rfl) (by kernel_rfl) (by kernel_rfl) (load1_at (off := oo4 + ((y1_7).toNat * 1 + 0)) (v := .int .i64 (nth l1_5 y1_7)) (fun _ => by kernel_rfl) rfl (reads_cell (k := 1) (RowsA.reads (k := 1) (.there .here)) (ints_rows _) ha4 (nth_row hc1_8_0) (show [(.int .i64 (nth l1_5 y1_7) : Value)][0]? = some _ from rfl))) stable_nil), ?_⟩
      refine d_pure 13 1 (.int .i64 (nth l1_5 y1_7)) (by kernel_rfl) (by kernel_rfl) (by kernel_rfl) (fun _ => by kernel_rfl) ?_
      refine d_pure 14 2 (.int .i64 y1_11) (by kernel_rfl) (by kernel_rfl) (by kernel_rfl) (fun _ => by kernel_rfl) ?_
      refine draw_end (by kernel_rfl) ?_
      refine At.env [(0, .int .i64 (nth l1_0 y1_2)), (1, .int .i64 (nth l1_5 y1_7)), (2, .int .i64 y1_11), (3, .int .i64 data), (4, .bool dirty), (5, .bool there)] ⟨by kernel_rfl, by kernel_rfl, by kernel_rfl, by kernel_rfl, by kernel_rfl, by kernel_rfl, trivial⟩ ?_
      refine at_round_normal ?_
      exact at_join_mk [(0, .int .i64 (nth l1_0 y1_2)), (1, .int .i64 (nth l1_5 y1_7)), (2, .int .i64 y1_11), (3, .int .i64 data), (4, .bool dirty), (5, .bool there)] (Γ) ⟨by kernel_rfl, by kernel_rfl, by kernel_rfl, by kernel_rfl, by kernel_rfl, by kernel_rfl, trivial⟩ (fun w hw => (Sat.less (.drop .here (.drop .here .refl)) hw)) ⟨nth l1_0 y1_2, nth l1_5 y1_7, y1_11, H, rfl, rfl⟩
end Go.Proofs.Ytlnjnkbnppnbkaa
