/- The law AttachReads: its walk. -/
import Derived.Test.YtlnjnkbnppnbkaaPdB
import Derived.Test.YtlnjnkbnppnbkaaKsA
import Derived.Test.YtlnjnkbnppnbkaaAtA
namespace Go.Proofs.Ytlnjnkbnppnbkaa
open Go Go.RowKit
set_option linter.unusedVariables false
set_option linter.unusedSimpArgs false
def attachReadsS_j0 (e0_16 : Bool) : Option (Bool) :=
  some e0_16
def attachReadsS_j3 (y20_8 : DealS × Bool × CacheS) (y1_5 : Int) (y1_3 : Int) (y1_1 : Int) : Option (Bool) :=
  (anextS y20_8.1 y1_5 y20_8.2.2 (⟨8, 0, 0, y1_3, y1_1, 0, 0, false, ([] : List Int)⟩ : PktS)).bind fun y25_6 => (bif y25_6.2.1 then (bif decide (y25_6.1.step = (0 : Int)) then letP (lenC y25_6.2.2) fun y26_8 => (bif decide (y26_8 = (1 : Int)) then (wakes14S).bind fun y26_12 => some y26_12 else some false) else some false) else some false)
def attachReadsS_j2 (y15_9 : DealS × Bool × CacheS) (y1_5 : Int) (y1_3 : Int) (y1_1 : Int) (dirty : Bool) (l2_7 : List Int) (y1_7 : Int) (e2_173 : Bool) : Option (Bool) :=
  (bif e2_173 then some false else (anextS y15_9.1 y1_5 y15_9.2.2 (⟨9, 0, 0, y1_3, y1_1, 0, 0, dirty, l2_7⟩ : PktS)).bind fun y20_8 => (findS y20_8.2.2 y1_1).bind fun y21_2 => (daskS y20_8.1 y1_5 (0 : Int)).bind fun y22_2 => (bif !y20_8.2.1 then some false else (bif !y21_2.2 then some false else (bif !(decide (y21_2.1.fwd = (wr ((3 : Int) + y1_7)))) then some false else (bif !(decide (y21_2.1.back = ((-1) : Int))) then some false else (bif y21_2.1.dirty then some false else (ksameS y21_2.1.data l2_7).bind fun y23_27 => (bif !y23_27 then some false else (bif !(decide (y22_2.kind = (2 : Int))) then some false else (bif !(decide (y22_2.state = (1 : Int))) then some false else (bif !(decide (y22_2.ptr = y1_5)) then some false else (bif !(y22_2.flag == dirty) then some false else (bif dirty then (ksameS y22_2.data l2_7).bind fun y23_58 => (bif !y23_58 then some false else (bif !dirty then (bif !(decide ((((List.length y22_2.data) : Nat) : Int) = (0 : Int))) then some false else attachReadsS_j3 y20_8 y1_5 y1_3 y1_1) else attachReadsS_j3 y20_8 y1_5 y1_3 y1_1)) else (bif !dirty then (bif !(decide ((((List.length y22_2.data) : Nat) : Int) = (0 : Int))) then some false else attachReadsS_j3 y20_8 y1_5 y1_3 y1_1) else attachReadsS_j3 y20_8 y1_5 y1_3 y1_1)))))))))))))
def attachReadsS_j1 (y6_2 : DealS) (y1_5 : Int) (y3_0 : CacheS × CacheS) (y1_3 : Int) (y1_1 : Int) (y1_7 : Int) (l2_3 : List Int) (dirty : Bool) (l2_7 : List Int) (e1_25 : Int) : Option (Bool) :=
  (anextS y6_2 y1_5 y3_0.1 (⟨7, 0, 0, y1_3, y1_1, wr ((3 : Int) + y1_7), e1_25, false, l2_3⟩ : PktS)).bind fun y15_9 => (daskS y15_9.1 y1_5 (0 : Int)).bind fun y16_2 => (findS y15_9.2.2 y1_1).bind fun y17_2 => (bif !y15_9.2.1 then attachReadsS_j2 y15_9 y1_5 y1_3 y1_1 dirty l2_7 y1_7 true else (bif y17_2.2 then attachReadsS_j2 y15_9 y1_5 y1_3 y1_1 dirty l2_7 y1_7 true else (bif !(decide (y16_2.kind = (3 : Int))) then attachReadsS_j2 y15_9 y1_5 y1_3 y1_1 dirty l2_7 y1_7 true else (bif !(decide (y16_2.dst = (wr ((3 : Int) + y1_7)))) then attachReadsS_j2 y15_9 y1_5 y1_3 y1_1 dirty l2_7 y1_7 true else attachReadsS_j2 y15_9 y1_5 y1_3 y1_1 dirty l2_7 y1_7 (!(decide (y16_2.ptr = y1_5)))))))
def attachReadsS (line : Int) (id : Int) (node : Int) (head : Int) (data : List Int) (more : List Int) (fresh : Bool) (dirty : Bool) : Option (Bool) :=
  (withinS line (4 : Int)).bind fun y1_1 => (withinS id (9 : Int)).bind fun y1_3 => (withinS node (3 : Int)).bind fun y1_5 => (withinS head (3 : Int)).bind fun y1_7 => (cutS data (2 : Int)).bind fun y2_1 => letP ([1] : List Int) fun l2_2 => chk ((y2_1 ++ l2_2).length ≤ 1099511627776) (letP (y2_1 ++ l2_2) fun l2_3 => (cutS more (2 : Int)).bind fun y2_5 => letP ([2] : List Int) fun l2_6 => chk ((y2_5 ++ l2_6).length ≤ 1099511627776) (letP (y2_5 ++ l2_6) fun l2_7 => (bothNilS).bind fun y3_0 => (dbeginS (1 : Int) y1_1 y1_3).bind fun y6_2 => (bif fresh then (anextS y6_2 y1_5 y3_0.1 (⟨7, 0, 0, y1_3, y1_1, (-1), 0, false, l2_3⟩ : PktS)).bind fun y8_7 => (findS y8_7.2.2 y1_1).bind fun y9_2 => (daskS y8_7.1 y1_5 (0 : Int)).bind fun y10_2 => (bif y8_7.2.1 then (bif y9_2.2 then (lonlyS (⟨y9_2.1.fwd, y9_2.1.back⟩ : LinkS)).bind fun y11_7 => (bif y11_7 then (bif !y9_2.1.dirty then (ksameS y9_2.1.data l2_3).bind fun y11_18 => (bif y11_18 then (bif decide (y10_2.kind = (2 : Int)) then (bif decide (y10_2.state = (1 : Int)) then (bif decide (y10_2.ptr = y1_5) then (bif !y10_2.flag then (bif decide ((((List.length y10_2.data) : Nat) : Int) = (0 : Int)) then (wakes14S).bind fun y11_48 => attachReadsS_j0 y11_48 else attachReadsS_j0 false) else attachReadsS_j0 false) else attachReadsS_j0 false) else attachReadsS_j0 false) else attachReadsS_j0 false) else attachReadsS_j0 false) else attachReadsS_j0 false) else attachReadsS_j0 false) else attachReadsS_j0 false) else attachReadsS_j0 false) else (bif dirty then attachReadsS_j1 y6_2 y1_5 y3_0 y1_3 y1_1 y1_7 l2_3 dirty l2_7 2 else attachReadsS_j1 y6_2 y1_5 y3_0 y1_3 y1_1 y1_7 l2_3 dirty l2_7 1))))
noncomputable def C5 (p : List Nat) : Code := codeAt (bodyOf Try.f5) p
set_option maxRecDepth 100000 in
set_option maxHeartbeats 8000000 in
theorem AttachReadsF_tr {W0 : World} {Γ : List Asn} (line : Int) (id : Int) (node : Int) (head : Int) (dataa : Option Addr) (datacap : Nat) (data : List Int) (morea : Option Addr) (morecap : Nat) (more : List Int) (fresh : Bool) (dirty : Bool) (hrdataa : Reads W0 Γ dataa (ints data)) (hcdataa : data.length ≤ datacap) (hrmorea : Reads W0 Γ morea (ints more)) (hcmorea : more.length ≤ morecap) (y : Bool) (H : attachReadsS line id node head data more fresh dirty = some y) : Tr Try.prog 5 #[.int .i64 line, .int .i64 id, .int .i64 node, .int .i64 head, .slice dataa (List.length data) datacap, .slice morea (List.length more) morecap, .bool fresh, .bool dirty] W0 (Γ) (fun r Δ => r = .bool y ∧ Δ = Γ) := by
  unfold attachReadsS at H
  refine Tr.enter (fn := Try.f5) (c := C5 []) (args := [.int .i64 line, .int .i64 id, .int .i64 node, .int .i64 head, .slice dataa (List.length data) datacap, .slice morea (List.length more) morecap, .bool fresh, .bool dirty]) 291 Try.func5 (by kernel_rfl) (by kernel_rfl) ?_
  refine At.env [(0, .int .i64 line), (1, .int .i64 id), (2, .int .i64 node), (3, .int .i64 head), (4, .slice dataa (List.length data) datacap), (5, .slice morea (List.length more) morecap), (6, .bool fresh), (7, .bool dirty)] ⟨by kernel_rfl, by kernel_rfl, by kernel_rfl, by kernel_rfl, by kernel_rfl, by kernel_rfl, by kernel_rfl, by kernel_rfl, trivial⟩ ?_
  refine at_seq (x := C5 [0]) (y := C5 [1]) (by kernel_rfl) ?_
  refine at_region (id := 0) 1 (by kernel_rfl) (by kernel_rfl) ?_
  refine s_pure 16 (.bool false) (by kernel_rfl) (by kernel_rfl) (fun _ => by kernel_rfl) ?_
  refine ops_end ?_
  refine At.env [(0, .int .i64 line), (1, .int .i64 id), (2, .int .i64 node), (3, .int .i64 head), (4, .slice dataa (List.length data) datacap), (5, .slice morea (List.length more) morecap), (6, .bool fresh), (7, .bool dirty), (16, .bool false)] ⟨by kernel_rfl, by kernel_rfl, by kernel_rfl, by kernel_rfl, by kernel_rfl, by kernel_rfl, by kernel_rfl, by kernel_rfl, by kernel_rfl, trivial⟩ ?_
  refine at_then_normal ?_
  refine at_seq (x := C5 [1, 0]) (y := C5 [1, 1]) (by kernel_rfl) ?_
  refine at_region (id := 1) 13 (by kernel_rfl) (by kernel_rfl) ?_
  refine s_pure 32 (.int .i64 line) (by kernel_rfl) (by kernel_rfl) (fun _ => by kernel_rfl) ?_
  obtain ⟨y1_1, hy1_1, H⟩ := bindE H
  refine s_quiet 33 (.int .i64 y1_1) 22 #[.int .i64 line, .int .i64 (4)] (by kernel_rfl) (by kernel_rfl) (fun _ => by kernel_rfl) (WithinF_tr line (4 : Int) y1_1 hy1_1) ?_
  refine s_pure 34 (.int .i64 id) (by kernel_rfl) (by kernel_rfl) (fun _ => by kernel_rfl) ?_
  obtain ⟨y1_3, hy1_3, H⟩ := bindE H
  refine s_quiet 35 (.int .i64 y1_3) 22 #[.int .i64 id, .int .i64 (9)] (by kernel_rfl) (by kernel_rfl) (fun _ => by kernel_rfl) (WithinF_tr id (9 : Int) y1_3 hy1_3) ?_
  refine s_pure 36 (.int .i64 node) (by kernel_rfl) (by kernel_rfl) (fun _ => by kernel_rfl) ?_
  obtain ⟨y1_5, hy1_5, H⟩ := bindE H
  refine s_quiet 37 (.int .i64 y1_5) 22 #[.int .i64 node, .int .i64 (3)] (by kernel_rfl) (by kernel_rfl) (fun _ => by kernel_rfl) (WithinF_tr node (3 : Int) y1_5 hy1_5) ?_
  refine s_pure 38 (.int .i64 head) (by kernel_rfl) (by kernel_rfl) (fun _ => by kernel_rfl) ?_
  obtain ⟨y1_7, hy1_7, H⟩ := bindE H
  refine s_quiet 39 (.int .i64 y1_7) 22 #[.int .i64 head, .int .i64 (3)] (by kernel_rfl) (by kernel_rfl) (fun _ => by kernel_rfl) (WithinF_tr head (3 : Int) y1_7 hy1_7) ?_
  refine s_pure 40 (.int .i64 (wr ((3 : Int) + y1_7))) (by kernel_rfl) (by kernel_rfl) (fun _ => by kernel_rfl) ?_
  refine s_pure 0 (.int .i64 y1_1) (by kernel_rfl) (by kernel_rfl) (fun _ => by kernel_rfl) ?_
  refine s_pure 1 (.int .i64 y1_3) (by kernel_rfl) (by kernel_rfl) (fun _ => by kernel_rfl) ?_
  refine s_pure 2 (.int .i64 y1_5) (by kernel_rfl) (by kernel_rfl) (fun _ => by kernel_rfl) ?_
  refine s_pure 3 (.int .i64 (wr ((3 : Int) + y1_7))) (by kernel_rfl) (by kernel_rfl) (fun _ => by kernel_rfl) ?_
  refine ops_end ?_
  refine At.env [(0, .int .i64 y1_1), (1, .int .i64 y1_3), (2, .int .i64 y1_5), (3, .int .i64 (wr ((3 : Int) + y1_7))), (4, .slice dataa (List.length data) datacap), (5, .slice morea (List.length more) morecap), (6, .bool fresh), (7, .bool dirty), (16, .bool false)] ⟨by kernel_rfl, by kernel_rfl, by kernel_rfl, by kernel_rfl, by kernel_rfl, by kernel_rfl, by kernel_rfl, by kernel_rfl, by kernel_rfl, trivial⟩ ?_
  refine at_then_normal ?_
  refine at_seq (x := C5 [1, 1, 0]) (y := C5 [1, 1, 1]) (by kernel_rfl) ?_
  refine at_region (id := 2) 10 (by kernel_rfl) (by kernel_rfl) ?_
  refine s_pure 41 (.slice dataa (List.length data) datacap) (by kernel_rfl) (by kernel_rfl) (fun _ => by kernel_rfl) ?_
  obtain ⟨y2_1, hy2_1, H⟩ := bindE H
  refine s_call 42 24 #[.slice dataa (List.length data) datacap, .int .i64 (2)] (by kernel_rfl) (by kernel_rfl) (fun _ => by kernel_rfl) (CutF_tr dataa datacap data (2 : Int) (Reads.conv (fun w hw => hw.less .refl) hrdataa) hcdataa y2_1 hy2_1) ?_
  rintro _ _ ⟨a2_1_00, c2_1_00, rfl, rfl⟩
  obtain ⟨l2_2, hl2_2, H⟩ := letE H
  refine s_step 43 (by kernel_rfl) (by kernel_rfl) (st_new_ints (T := 3) (xs := l2_2) 1 hl2_2 (fun _ => by kernel_rfl) (by kernel_rfl)) ?_
  rintro _ _ ⟨b2_2, rfl, rfl⟩
  obtain ⟨hc2_3_0, H⟩ := chkE H
  obtain ⟨l2_3, hl2_3, H⟩ := letE H
  refine s_step 44 (by kernel_rfl) (by kernel_rfl) (st_append_ints (xs := y2_1) (ys := l2_2) (zs := l2_3) (m1 := (List.length y2_1)) (m2 := (List.length l2_2)) (m := List.length l2_3) (cap2 := 1) 30 30 3 (tinfo 3) (fun _ => by kernel_rfl) (by kernel_rfl) (by kernel_rfl) (by kernel_rfl) (by kernel_rfl) (by kernel_rfl) (.there .here) (RowsA.reads (k := 1) .here) (by first | rfl | simp) (by first | rfl | simp) (by rw [← hl2_3]; first | done | simp) (by rw [← hl2_3]; first | done | simp) (by rw [← hl2_3]; exact hc2_3_0)) ?_
  rintro _ _ ⟨a2_3, c2_3, rfl, rfl⟩
  refine s_pure 45 (.slice morea (List.length more) morecap) (by kernel_rfl) (by kernel_rfl) (fun _ => by kernel_rfl) ?_
  obtain ⟨y2_5, hy2_5, H⟩ := bindE H
  refine s_call 46 24 #[.slice morea (List.length more) morecap, .int .i64 (2)] (by kernel_rfl) (by kernel_rfl) (fun _ => by kernel_rfl) (CutF_tr morea morecap more (2 : Int) (Reads.conv (fun w hw => hw.less (.drop .here (.drop .here .refl))) hrmorea) hcmorea y2_5 hy2_5) ?_
  rintro _ _ ⟨a2_5_00, c2_5_00, rfl, rfl⟩
  obtain ⟨l2_6, hl2_6, H⟩ := letE H
  refine s_step 47 (by kernel_rfl) (by kernel_rfl) (st_new_ints (T := 3) (xs := l2_6) 1 hl2_6 (fun _ => by kernel_rfl) (by kernel_rfl)) ?_
  rintro _ _ ⟨b2_6, rfl, rfl⟩
  obtain ⟨hc2_7_0, H⟩ := chkE H
  obtain ⟨l2_7, hl2_7, H⟩ := letE H
  refine s_step 48 (by kernel_rfl) (by kernel_rfl) (st_append_ints (xs := y2_5) (ys := l2_6) (zs := l2_7) (m1 := (List.length y2_5)) (m2 := (List.length l2_6)) (m := List.length l2_7) (cap2 := 1) 30 30 3 (tinfo 3) (fun _ => by kernel_rfl) (by kernel_rfl) (by kernel_rfl) (by kernel_rfl) (by kernel_rfl) (by kernel_rfl) (.there .here) (RowsA.reads (k := 1) .here) (by first | rfl | simp) (by first | rfl | simp) (by rw [← hl2_7]; first | done | simp) (by rw [← hl2_7]; first | done | simp) (by rw [← hl2_7]; exact hc2_7_0)) ?_
  rintro _ _ ⟨a2_7, c2_7, rfl, rfl⟩
  refine s_pure 4 (.slice a2_3 (List.length l2_3) c2_3) (by kernel_rfl) (by kernel_rfl) (fun _ => by kernel_rfl) ?_
  refine s_pure 5 (.slice a2_7 (List.length l2_7) c2_7) (by kernel_rfl) (by kernel_rfl) (fun _ => by kernel_rfl) ?_
  refine ops_end ?_
  refine At.env [(0, .int .i64 y1_1), (1, .int .i64 y1_3), (2, .int .i64 y1_5), (3, .int .i64 (wr ((3 : Int) + y1_7))), (4, .slice a2_3 (List.length l2_3) c2_3), (5, .slice a2_7 (List.length l2_7) c2_7), (6, .bool fresh), (7, .bool dirty), (16, .bool false)] ⟨by kernel_rfl, by kernel_rfl, by kernel_rfl, by kernel_rfl, by kernel_rfl, by kernel_rfl, by kernel_rfl, by kernel_rfl, by kernel_rfl, trivial⟩ ?_
  refine at_then_normal ?_
  refine at_seq (x := C5 [1, 1, 1, 0]) (y := C5 [1, 1, 1, 1]) (by kernel_rfl) ?_
  refine at_region (id := 3) 6 (by kernel_rfl) (by kernel_rfl) ?_
  obtain ⟨y3_0, hy3_0, H⟩ := bindE H
  refine s_call 50 13 #[.slice none 0 0, .slice none 0 0, .slice none 0 0] (by kernel_rfl) (by kernel_rfl) (fun _ => by kernel_rfl) (BothNilF_tr  y3_0 hy3_0) ?_
  rintro _ _ ⟨b3_0_0, b3_0_1, rfl, rfl⟩
  refine s_pure 49 (.tuple #[.pointer (some ⟨b3_0_0, 0, none⟩), .pointer (some ⟨b3_0_1, 0, none⟩)]) (by kernel_rfl) (by kernel_rfl) (fun _ => by kernel_rfl) ?_
  refine s_pure 51 (.pointer (some ⟨b3_0_0, 0, none⟩)) (by kernel_rfl) (by kernel_rfl) (fun _ => by kernel_rfl) ?_
  refine s_pure 52 (.pointer (some ⟨b3_0_1, 0, none⟩)) (by kernel_rfl) (by kernel_rfl) (fun _ => by kernel_rfl) ?_
  refine s_pure 17 (.pointer (some ⟨b3_0_0, 0, none⟩)) (by kernel_rfl) (by kernel_rfl) (fun _ => by kernel_rfl) ?_
  refine s_pure 18 (.pointer (some ⟨b3_0_1, 0, none⟩)) (by kernel_rfl) (by kernel_rfl) (fun _ => by kernel_rfl) ?_
  refine ops_end ?_
  refine At.env [(0, .int .i64 y1_1), (1, .int .i64 y1_3), (2, .int .i64 y1_5), (3, .int .i64 (wr ((3 : Int) + y1_7))), (4, .slice a2_3 (List.length l2_3) c2_3), (5, .slice a2_7 (List.length l2_7) c2_7), (6, .bool fresh), (7, .bool dirty), (16, .bool false), (17, .pointer (some ⟨b3_0_0, 0, none⟩))] ⟨by kernel_rfl, by kernel_rfl, by kernel_rfl, by kernel_rfl, by kernel_rfl, by kernel_rfl, by kernel_rfl, by kernel_rfl, by kernel_rfl, by kernel_rfl, trivial⟩ ?_
  refine at_then_normal ?_
  refine at_seq (x := C5 [1, 1, 1, 1, 0]) (y := C5 [1, 1, 1, 1, 1]) (by kernel_rfl) ?_
  refine at_seq (x := C5 [1, 1, 1, 1, 0, 0]) (y := C5 [1, 1, 1, 1, 0, 1]) (by kernel_rfl) ?_
  refine at_region (id := 4) 2 (by kernel_rfl) (by kernel_rfl) ?_
  refine s_pure 53 (.pointer (some ⟨b3_0_0, 0, none⟩)) (by kernel_rfl) (by kernel_rfl) (fun _ => by kernel_rfl) ?_
  refine s_pure 54 (.bool false) (by kernel_rfl) (by kernel_rfl) (fun _ => by kernel_rfl) ?_
  refine ops_end ?_
  refine At.env [(0, .int .i64 y1_1), (1, .int .i64 y1_3), (2, .int .i64 y1_5), (3, .int .i64 (wr ((3 : Int) + y1_7))), (4, .slice a2_3 (List.length l2_3) c2_3), (5, .slice a2_7 (List.length l2_7) c2_7), (6, .bool fresh), (7, .bool dirty), (16, .bool false), (17, .pointer (some ⟨b3_0_0, 0, none⟩)), (54, .bool false)] ⟨by kernel_rfl, by kernel_rfl, by kernel_rfl, by kernel_rfl, by kernel_rfl, by kernel_rfl, by kernel_rfl, by kernel_rfl, by kernel_rfl, by kernel_rfl, by kernel_rfl, trivial⟩ ?_
  refine at_then_normal ?_
  refine at_false (t := false) (x := C5 [1, 1, 1, 1, 0, 1, 0]) (y := C5 [1, 1, 1, 1, 0, 1, 1]) (o := .tmp 54) (by kernel_rfl) (by kernel_rfl) (by kernel_rfl) rfl ?_
  refine at_skip (by kernel_rfl) ?_
  refine at_then_normal ?_
  refine at_seq (x := C5 [1, 1, 1, 1, 1, 0]) (y := C5 [1, 1, 1, 1, 1, 1]) (by kernel_rfl) ?_
  refine at_region (id := 6) 5 (by kernel_rfl) (by kernel_rfl) ?_
  refine s_pure 55 (.int .i64 y1_1) (by kernel_rfl) (by kernel_rfl) (fun _ => by kernel_rfl) ?_
  refine s_pure 56 (.int .i64 y1_3) (by kernel_rfl) (by kernel_rfl) (fun _ => by kernel_rfl) ?_
  obtain ⟨y6_2, hy6_2, H⟩ := bindE H
  refine s_call 57 17 #[.int .i64 (1), .int .i64 y1_1, .int .i64 y1_3] (by kernel_rfl) (by kernel_rfl) (fun _ => by kernel_rfl) (DBeginF_tr (1 : Int) y1_1 y1_3 y6_2 hy6_2) ?_
  rintro _ _ ⟨a6_2_00, c6_2_00, rfl, rfl⟩
  refine s_step 19 (by kernel_rfl) (by kernel_rfl) (st_new (T := 35) (cells := #[.int .i64 (0), .int .i64 (0), .int .i64 (0), .int .i64 (0), .int .i64 (0), .int .i64 (0), .slice none 0 0, .int .i64 (0), .int .i64 (0)]) (fun a => .pointer (some a)) (fun _ => by kernel_rfl)) ?_
  rintro _ _ ⟨b6_3, rfl, rfl⟩
  refine s_do (by kernel_rfl) (by kernel_rfl) (st_store (off := 0) (vs := [.int .i64 y6_2.kind, .int .i64 y6_2.line, .int .i64 y6_2.id, .int .i64 y6_2.step, .int .i64 y6_2.state, .int .i64 y6_2.head, .slice a6_2_00 (List.length y6_2.data) c6_2_00, .int .i64 y6_2.next, .int .i64 y6_2.told]) (c' := #[.int .i64 y6_2.kind, .int .i64 y6_2.line, .int .i64 y6_2.id, .int .i64 y6_2.step, .int .i64 y6_2.state, .int .i64 y6_2.head, .slice a6_2_00 (List.length y6_2.data) c6_2_00, .int .i64 y6_2.next, .int .i64 y6_2.told]) (fun _ => by kernel_rfl) .here (by kernel_rfl) (by kernel_rfl) (by kernel_rfl)) ?_
  rintro _ _ ⟨rfl, rfl⟩
  refine ops_end ?_
  refine At.env [(0, .int .i64 y1_1), (1, .int .i64 y1_3), (2, .int .i64 y1_5), (3, .int .i64 (wr ((3 : Int) + y1_7))), (4, .slice a2_3 (List.length l2_3) c2_3), (5, .slice a2_7 (List.length l2_7) c2_7), (6, .bool fresh), (7, .bool dirty), (16, .bool false), (17, .pointer (some ⟨b3_0_0, 0, none⟩)), (19, .pointer (some ⟨b6_3, 0, none⟩)), (54, .bool false)] ⟨by kernel_rfl, by kernel_rfl, by kernel_rfl, by kernel_rfl, by kernel_rfl, by kernel_rfl, by kernel_rfl, by kernel_rfl, by kernel_rfl, by kernel_rfl, by kernel_rfl, by kernel_rfl, trivial⟩ ?_
  refine at_then_normal ?_
  refine at_seq (x := C5 [1, 1, 1, 1, 1, 1, 0]) (y := C5 [1, 1, 1, 1, 1, 1, 1]) (by kernel_rfl) ?_
  refine at_seq (x := C5 [1, 1, 1, 1, 1, 1, 0, 0]) (y := C5 [1, 1, 1, 1, 1, 1, 0, 1]) (by kernel_rfl) ?_
  refine at_region (id := 7) 1 (by kernel_rfl) (by kernel_rfl) ?_
  refine s_pure 58 (.bool fresh) (by kernel_rfl) (by kernel_rfl) (fun _ => by kernel_rfl) ?_
  refine ops_end ?_
  refine At.env [(0, .int .i64 y1_1), (1, .int .i64 y1_3), (2, .int .i64 y1_5), (3, .int .i64 (wr ((3 : Int) + y1_7))), (4, .slice a2_3 (List.length l2_3) c2_3), (5, .slice a2_7 (List.length l2_7) c2_7), (6, .bool fresh), (7, .bool dirty), (16, .bool false), (17, .pointer (some ⟨b3_0_0, 0, none⟩)), (19, .pointer (some ⟨b6_3, 0, none⟩)), (54, .bool false), (58, .bool fresh)] ⟨by kernel_rfl, by kernel_rfl, by kernel_rfl, by kernel_rfl, by kernel_rfl, by kernel_rfl, by kernel_rfl, by kernel_rfl, by kernel_rfl, by kernel_rfl, by kernel_rfl, by kernel_rfl, by kernel_rfl, trivial⟩ ?_
  refine at_then_normal ?_
  rcases Bool.eq_false_or_eq_true (fresh) with h1 | h1
  · replace H := bifT H h1
    refine at_true (t := fresh) (x := C5 [1, 1, 1, 1, 1, 1, 0, 1, 0]) (y := C5 [1, 1, 1, 1, 1, 1, 0, 1, 1]) (o := .tmp 58) (by kernel_rfl) (by kernel_rfl) (by kernel_rfl) h1 ?_
    refine at_seq (x := C5 [1, 1, 1, 1, 1, 1, 0, 1, 0, 0]) (y := C5 [1, 1, 1, 1, 1, 1, 0, 1, 0, 1]) (by kernel_rfl) ?_
    refine at_region (id := 8) 14 (by kernel_rfl) (by kernel_rfl) ?_
    refine s_load 60 (.agg #[.int .i64 y6_2.kind, .int .i64 y6_2.line, .int .i64 y6_2.id, .int .i64 y6_2.step, .int .i64 y6_2.state, .int .i64 y6_2.head, .slice a6_2_00 (List.length y6_2.data) c6_2_00, .int .i64 y6_2.next, .int .i64 y6_2.told]) (by kernel_rfl) (by kernel_rfl) (loadN (off := 0) (vs := [.int .i64 y6_2.kind, .int .i64 y6_2.line, .int .i64 y6_2.id, .int .i64 y6_2.step, .int .i64 y6_2.state, .int .i64 y6_2.head, .slice a6_2_00 (List.length y6_2.data) c6_2_00, .int .i64 y6_2.next, .int .i64 y6_2.told]) 9 (fun _ => by kernel_rfl) (holds_own .here) rfl (by exact ⟨rfl, rfl, rfl, rfl, rfl, rfl, rfl, rfl, rfl, trivial⟩)) ?_
    refine s_pure 61 (.int .i64 y1_5) (by kernel_rfl) (by kernel_rfl) (fun _ => by kernel_rfl) ?_
    refine s_pure 62 (.pointer (some ⟨b3_0_0, 0, none⟩)) (by kernel_rfl) (by kernel_rfl) (fun _ => by kernel_rfl) ?_
    refine s_pure 63 (.int .i64 y1_3) (by kernel_rfl) (by kernel_rfl) (fun _ => by kernel_rfl) ?_
    refine s_pure 64 (.int .i64 y1_1) (by kernel_rfl) (by kernel_rfl) (fun _ => by kernel_rfl) ?_
    refine s_pure 65 (.slice a2_3 (List.length l2_3) c2_3) (by kernel_rfl) (by kernel_rfl) (fun _ => by kernel_rfl) ?_
    refine s_pure 66 (.agg #[.int .i64 (7), .int .i64 (0), .int .i64 (0), .int .i64 y1_3, .int .i64 y1_1, .int .i64 (-1), .int .i64 (0), .bool false, .slice a2_3 (List.length l2_3) c2_3]) (by kernel_rfl) (by kernel_rfl) (fun _ => by kernel_rfl) ?_
    obtain ⟨y8_7, hy8_7, H⟩ := bindE H
    refine s_call 67 25 #[.agg #[.int .i64 y6_2.kind, .int .i64 y6_2.line, .int .i64 y6_2.id, .int .i64 y6_2.step, .int .i64 y6_2.state, .int .i64 y6_2.head, .slice a6_2_00 (List.length y6_2.data) c6_2_00, .int .i64 y6_2.next, .int .i64 y6_2.told], .int .i64 y1_5, .pointer (some ⟨b3_0_0, 0, none⟩), .agg #[.int .i64 (7), .int .i64 (0), .int .i64 (0), .int .i64 y1_3, .int .i64 y1_1, .int .i64 (-1), .int .i64 (0), .bool false, .slice a2_3 (List.length l2_3) c2_3]] (by kernel_rfl) (by kernel_rfl) (fun _ => by kernel_rfl) (Tr.conv (Γ' := (ImmI a6_2_00 y6_2.data) :: (CacheA b3_0_0 y3_0.1) :: (ImmI a6_2_00 y6_2.data) :: (Asn.own b6_3 (.cells #[.int .i64 y6_2.kind, .int .i64 y6_2.line, .int .i64 y6_2.id, .int .i64 y6_2.step, .int .i64 y6_2.state, .int .i64 y6_2.head, .slice a6_2_00 (List.length y6_2.data) c6_2_00, .int .i64 y6_2.next, .int .i64 y6_2.told] 35 (0, 0))) :: (RCacheA b3_0_1 y3_0.2) :: (IntsA a2_7 c2_7 l2_7) :: (IntsA (some ⟨b2_6, 0, none⟩) 1 l2_6) :: (IntsA a2_3 c2_3 l2_3) :: (IntsA (some ⟨b2_2, 0, none⟩) 1 l2_2) :: Γ) (fun w hw => (Sat.less (.take .here (.take (.there (.there .here)) (.take .here (.take .here (.take .here (.take .here (.take .here (.take .here (.take .here .refl))))))))) (ImmR.dup (Sat.less (.take (.there .here) (.take .here (.take .here (.take .here (.take .here (.take .here (.take .here (.take .here .refl)))))))) hw)))) (ANextF_tr a6_2_00 c6_2_00 y6_2 y1_5 b3_0_0 y3_0.1 a2_3 c2_3 (⟨7, 0, 0, y1_3, y1_1, (-1), 0, false, l2_3⟩ : PktS) (RowsA.reads (k := 1) (.there (.there (.there (.there (.there .here)))))) y8_7 hy8_7)) ?_
    rintro _ _ ⟨a8_7_00, c8_7_00, rfl, rfl⟩
    refine s_pure 59 (.tuple #[.agg #[.int .i64 y8_7.1.kind, .int .i64 y8_7.1.line, .int .i64 y8_7.1.id, .int .i64 y8_7.1.step, .int .i64 y8_7.1.state, .int .i64 y8_7.1.head, .slice a8_7_00 (List.length y8_7.1.data) c8_7_00, .int .i64 y8_7.1.next, .int .i64 y8_7.1.told], .bool y8_7.2.1]) (by kernel_rfl) (by kernel_rfl) (fun _ => by kernel_rfl) ?_
    refine s_pure 68 (.agg #[.int .i64 y8_7.1.kind, .int .i64 y8_7.1.line, .int .i64 y8_7.1.id, .int .i64 y8_7.1.step, .int .i64 y8_7.1.state, .int .i64 y8_7.1.head, .slice a8_7_00 (List.length y8_7.1.data) c8_7_00, .int .i64 y8_7.1.next, .int .i64 y8_7.1.told]) (by kernel_rfl) (by kernel_rfl) (fun _ => by kernel_rfl) ?_
    refine s_pure 69 (.bool y8_7.2.1) (by kernel_rfl) (by kernel_rfl) (fun _ => by kernel_rfl) ?_
    refine s_step 20 (by kernel_rfl) (by kernel_rfl) (st_new (T := 35) (cells := #[.int .i64 (0), .int .i64 (0), .int .i64 (0), .int .i64 (0), .int .i64 (0), .int .i64 (0), .slice none 0 0, .int .i64 (0), .int .i64 (0)]) (fun a => .pointer (some a)) (fun _ => by kernel_rfl)) ?_
    rintro _ _ ⟨b8_11, rfl, rfl⟩
    refine s_do (by kernel_rfl) (by kernel_rfl) (st_store (off := 0) (vs := [.int .i64 y8_7.1.kind, .int .i64 y8_7.1.line, .int .i64 y8_7.1.id, .int .i64 y8_7.1.step, .int .i64 y8_7.1.state, .int .i64 y8_7.1.head, .slice a8_7_00 (List.length y8_7.1.data) c8_7_00, .int .i64 y8_7.1.next, .int .i64 y8_7.1.told]) (c' := #[.int .i64 y8_7.1.kind, .int .i64 y8_7.1.line, .int .i64 y8_7.1.id, .int .i64 y8_7.1.step, .int .i64 y8_7.1.state, .int .i64 y8_7.1.head, .slice a8_7_00 (List.length y8_7.1.data) c8_7_00, .int .i64 y8_7.1.next, .int .i64 y8_7.1.told]) (fun _ => by kernel_rfl) .here (by kernel_rfl) (by kernel_rfl) (by kernel_rfl)) ?_
    rintro _ _ ⟨rfl, rfl⟩
    refine s_pure 21 (.bool y8_7.2.1) (by kernel_rfl) (by kernel_rfl) (fun _ => by kernel_rfl) ?_
    refine ops_end ?_
    refine At.env [(0, .int .i64 y1_1), (1, .int .i64 y1_3), (2, .int .i64 y1_5), (3, .int .i64 (wr ((3 : Int) + y1_7))), (4, .slice a2_3 (List.length l2_3) c2_3), (5, .slice a2_7 (List.length l2_7) c2_7), (6, .bool fresh), (7, .bool dirty), (16, .bool false), (17, .pointer (some ⟨b3_0_0, 0, none⟩)), (19, .pointer (some ⟨b6_3, 0, none⟩)), (20, .pointer (some ⟨b8_11, 0, none⟩)), (21, .bool y8_7.2.1), (54, .bool false), (58, .bool fresh)] ⟨by kernel_rfl, by kernel_rfl, by kernel_rfl, by kernel_rfl, by kernel_rfl, by kernel_rfl, by kernel_rfl, by kernel_rfl, by kernel_rfl, by kernel_rfl, by kernel_rfl, by kernel_rfl, by kernel_rfl, by kernel_rfl, by kernel_rfl, trivial⟩ ?_
    refine at_then_normal ?_
    refine at_seq (x := C5 [1, 1, 1, 1, 1, 1, 0, 1, 0, 1, 0]) (y := C5 [1, 1, 1, 1, 1, 1, 0, 1, 0, 1, 1]) (by kernel_rfl) ?_
    refine at_region (id := 9) 9 (by kernel_rfl) (by kernel_rfl) ?_
    refine s_pure 71 (.pointer (some ⟨b3_0_0, 0, none⟩)) (by kernel_rfl) (by kernel_rfl) (fun _ => by kernel_rfl) ?_
    refine s_pure 72 (.int .i64 y1_1) (by kernel_rfl) (by kernel_rfl) (fun _ => by kernel_rfl) ?_
    obtain ⟨y9_2, hy9_2, H⟩ := bindE H
    refine s_call 73 18 #[.pointer (some ⟨b3_0_0, 0, none⟩), .int .i64 y1_1] (by kernel_rfl) (by kernel_rfl) (fun _ => by kernel_rfl) (Tr.conv (Γ' := (CacheA b3_0_0 y8_7.2.2) :: (Asn.own b8_11 (.cells #[.int .i64 y8_7.1.kind, .int .i64 y8_7.1.line, .int .i64 y8_7.1.id, .int .i64 y8_7.1.step, .int .i64 y8_7.1.state, .int .i64 y8_7.1.head, .slice a8_7_00 (List.length y8_7.1.data) c8_7_00, .int .i64 y8_7.1.next, .int .i64 y8_7.1.told] 35 (0, 0))) :: (ImmI a8_7_00 y8_7.1.data) :: (ImmI a6_2_00 y6_2.data) :: (Asn.own b6_3 (.cells #[.int .i64 y6_2.kind, .int .i64 y6_2.line, .int .i64 y6_2.id, .int .i64 y6_2.step, .int .i64 y6_2.state, .int .i64 y6_2.head, .slice a6_2_00 (List.length y6_2.data) c6_2_00, .int .i64 y6_2.next, .int .i64 y6_2.told] 35 (0, 0))) :: (RCacheA b3_0_1 y3_0.2) :: (IntsA a2_7 c2_7 l2_7) :: (IntsA (some ⟨b2_6, 0, none⟩) 1 l2_6) :: (IntsA a2_3 c2_3 l2_3) :: (IntsA (some ⟨b2_2, 0, none⟩) 1 l2_2) :: Γ) (fun w hw => (Sat.less (.take (.there (.there .here)) (.take .here (.take .here (.take .here (.take .here (.take .here (.take .here (.take .here (.take .here (.take .here .refl)))))))))) hw)) (FindF_tr b3_0_0 y8_7.2.2 y1_1 y9_2 hy9_2)) ?_
    rintro _ _ ⟨a9_2_00, c9_2_00, rfl, rfl⟩
    refine s_pure 70 (.tuple #[.agg #[.int .i64 y9_2.1.fwd, .int .i64 y9_2.1.back, .int .i64 y9_2.1.line, .int .i64 y9_2.1.used, .bool y9_2.1.dirty, .slice a9_2_00 (List.length y9_2.1.data) c9_2_00], .bool y9_2.2]) (by kernel_rfl) (by kernel_rfl) (fun _ => by kernel_rfl) ?_
    refine s_pure 74 (.agg #[.int .i64 y9_2.1.fwd, .int .i64 y9_2.1.back, .int .i64 y9_2.1.line, .int .i64 y9_2.1.used, .bool y9_2.1.dirty, .slice a9_2_00 (List.length y9_2.1.data) c9_2_00]) (by kernel_rfl) (by kernel_rfl) (fun _ => by kernel_rfl) ?_
    refine s_pure 75 (.bool y9_2.2) (by kernel_rfl) (by kernel_rfl) (fun _ => by kernel_rfl) ?_
    refine s_step 22 (by kernel_rfl) (by kernel_rfl) (st_new (T := 32) (cells := #[.int .i64 (0), .int .i64 (0), .int .i64 (0), .int .i64 (0), .bool false, .slice none 0 0]) (fun a => .pointer (some a)) (fun _ => by kernel_rfl)) ?_
    rintro _ _ ⟨b9_6, rfl, rfl⟩
    refine s_do (by kernel_rfl) (by kernel_rfl) (st_store (off := 0) (vs := [.int .i64 y9_2.1.fwd, .int .i64 y9_2.1.back, .int .i64 y9_2.1.line, .int .i64 y9_2.1.used, .bool y9_2.1.dirty, .slice a9_2_00 (List.length y9_2.1.data) c9_2_00]) (c' := #[.int .i64 y9_2.1.fwd, .int .i64 y9_2.1.back, .int .i64 y9_2.1.line, .int .i64 y9_2.1.used, .bool y9_2.1.dirty, .slice a9_2_00 (List.length y9_2.1.data) c9_2_00]) (fun _ => by kernel_rfl) .here (by kernel_rfl) (by kernel_rfl) (by kernel_rfl)) ?_
    rintro _ _ ⟨rfl, rfl⟩
    refine s_pure 23 (.bool y9_2.2) (by kernel_rfl) (by kernel_rfl) (fun _ => by kernel_rfl) ?_
    refine ops_end ?_
    refine At.env [(0, .int .i64 y1_1), (1, .int .i64 y1_3), (2, .int .i64 y1_5), (3, .int .i64 (wr ((3 : Int) + y1_7))), (4, .slice a2_3 (List.length l2_3) c2_3), (5, .slice a2_7 (List.length l2_7) c2_7), (6, .bool fresh), (7, .bool dirty), (16, .bool false), (17, .pointer (some ⟨b3_0_0, 0, none⟩)), (19, .pointer (some ⟨b6_3, 0, none⟩)), (20, .pointer (some ⟨b8_11, 0, none⟩)), (21, .bool y8_7.2.1), (22, .pointer (some ⟨b9_6, 0, none⟩)), (23, .bool y9_2.2), (54, .bool false), (58, .bool fresh)] ⟨by kernel_rfl, by kernel_rfl, by kernel_rfl, by kernel_rfl, by kernel_rfl, by kernel_rfl, by kernel_rfl, by kernel_rfl, by kernel_rfl, by kernel_rfl, by kernel_rfl, by kernel_rfl, by kernel_rfl, by kernel_rfl, by kernel_rfl, by kernel_rfl, by kernel_rfl, trivial⟩ ?_
    refine at_then_normal ?_
    refine at_seq (x := C5 [1, 1, 1, 1, 1, 1, 0, 1, 0, 1, 1, 0]) (y := C5 [1, 1, 1, 1, 1, 1, 0, 1, 0, 1, 1, 1]) (by kernel_rfl) ?_
    refine at_region (id := 10) 5 (by kernel_rfl) (by kernel_rfl) ?_
    refine s_load 76 (.agg #[.int .i64 y8_7.1.kind, .int .i64 y8_7.1.line, .int .i64 y8_7.1.id, .int .i64 y8_7.1.step, .int .i64 y8_7.1.state, .int .i64 y8_7.1.head, .slice a8_7_00 (List.length y8_7.1.data) c8_7_00, .int .i64 y8_7.1.next, .int .i64 y8_7.1.told]) (by kernel_rfl) (by kernel_rfl) (loadN (off := 0) (vs := [.int .i64 y8_7.1.kind, .int .i64 y8_7.1.line, .int .i64 y8_7.1.id, .int .i64 y8_7.1.step, .int .i64 y8_7.1.state, .int .i64 y8_7.1.head, .slice a8_7_00 (List.length y8_7.1.data) c8_7_00, .int .i64 y8_7.1.next, .int .i64 y8_7.1.told]) 9 (fun _ => by kernel_rfl) (holds_own (.there (.there (.there .here)))) rfl (by exact ⟨rfl, rfl, rfl, rfl, rfl, rfl, rfl, rfl, rfl, trivial⟩)) ?_
    refine s_pure 77 (.int .i64 y1_5) (by kernel_rfl) (by kernel_rfl) (fun _ => by kernel_rfl) ?_
    obtain ⟨y10_2, hy10_2, H⟩ := bindE H
    refine s_call 78 26 #[.agg #[.int .i64 y8_7.1.kind, .int .i64 y8_7.1.line, .int .i64 y8_7.1.id, .int .i64 y8_7.1.step, .int .i64 y8_7.1.state, .int .i64 y8_7.1.head, .slice a8_7_00 (List.length y8_7.1.data) c8_7_00, .int .i64 y8_7.1.next, .int .i64 y8_7.1.told], .int .i64 y1_5, .int .i64 (0)] (by kernel_rfl) (by kernel_rfl) (fun _ => by kernel_rfl) (DAskF_tr a8_7_00 c8_7_00 y8_7.1 y1_5 (0 : Int) (ImmR.reads (k := 1) (.there (.there (.there (.there .here))))) y10_2 hy10_2) ?_
    rintro _ _ ⟨a10_2_00, c10_2_00, rfl, rfl⟩
    refine s_step 24 (by kernel_rfl) (by kernel_rfl) (st_new (T := 40) (cells := #[.int .i64 (0), .int .i64 (0), .int .i64 (0), .int .i64 (0), .int .i64 (0), .int .i64 (0), .int .i64 (0), .bool false, .slice none 0 0]) (fun a => .pointer (some a)) (fun _ => by kernel_rfl)) ?_
    rintro _ _ ⟨b10_3, rfl, rfl⟩
    refine s_do (by kernel_rfl) (by kernel_rfl) (st_store (off := 0) (vs := [.int .i64 y10_2.kind, .int .i64 y10_2.src, .int .i64 y10_2.dst, .int .i64 y10_2.id, .int .i64 y10_2.line, .int .i64 y10_2.ptr, .int .i64 y10_2.state, .bool y10_2.flag, .slice a10_2_00 (List.length y10_2.data) c10_2_00]) (c' := #[.int .i64 y10_2.kind, .int .i64 y10_2.src, .int .i64 y10_2.dst, .int .i64 y10_2.id, .int .i64 y10_2.line, .int .i64 y10_2.ptr, .int .i64 y10_2.state, .bool y10_2.flag, .slice a10_2_00 (List.length y10_2.data) c10_2_00]) (fun _ => by kernel_rfl) .here (by kernel_rfl) (by kernel_rfl) (by kernel_rfl)) ?_
    rintro _ _ ⟨rfl, rfl⟩
    refine ops_end ?_
    refine At.env [(0, .int .i64 y1_1), (1, .int .i64 y1_3), (2, .int .i64 y1_5), (3, .int .i64 (wr ((3 : Int) + y1_7))), (4, .slice a2_3 (List.length l2_3) c2_3), (5, .slice a2_7 (List.length l2_7) c2_7), (6, .bool fresh), (7, .bool dirty), (16, .bool false), (17, .pointer (some ⟨b3_0_0, 0, none⟩)), (19, .pointer (some ⟨b6_3, 0, none⟩)), (20, .pointer (some ⟨b8_11, 0, none⟩)), (21, .bool y8_7.2.1), (22, .pointer (some ⟨b9_6, 0, none⟩)), (23, .bool y9_2.2), (24, .pointer (some ⟨b10_3, 0, none⟩)), (54, .bool false), (58, .bool fresh)] ⟨by kernel_rfl, by kernel_rfl, by kernel_rfl, by kernel_rfl, by kernel_rfl, by kernel_rfl, by kernel_rfl, by kernel_rfl, by kernel_rfl, by kernel_rfl, by kernel_rfl, by kernel_rfl, by kernel_rfl, by kernel_rfl, by kernel_rfl, by kernel_rfl, by kernel_rfl, by kernel_rfl, trivial⟩ ?_
    refine at_then_normal ?_
    refine at_seq_join (x := C5 [1, 1, 1, 1, 1, 1, 0, 1, 0, 1, 1, 1, 0]) (y := C5 [1, 1, 1, 1, 1, 1, 0, 1, 0, 1, 1, 1, 1]) (fun ff ΔΔ => ∃ (e0_16 : Bool), attachReadsS_j0 e0_16 = some y ∧ ff = [(0, .int .i64 y1_1), (1, .int .i64 y1_3), (2, .int .i64 y1_5), (3, .int .i64 (wr ((3 : Int) + y1_7))), (4, .slice a2_3 (List.length l2_3) c2_3), (5, .slice a2_7 (List.length l2_7) c2_7), (7, .bool dirty), (16, .bool e0_16), (17, .pointer (some ⟨b3_0_0, 0, none⟩)), (19, .pointer (some ⟨b6_3, 0, none⟩))] ∧ (CacheA b3_0_0 y8_7.2.2) :: (ImmI a6_2_00 y6_2.data) :: (Asn.own b6_3 (.cells #[.int .i64 y6_2.kind, .int .i64 y6_2.line, .int .i64 y6_2.id, .int .i64 y6_2.step, .int .i64 y6_2.state, .int .i64 y6_2.head, .slice a6_2_00 (List.length y6_2.data) c6_2_00, .int .i64 y6_2.next, .int .i64 y6_2.told] 35 (0, 0))) :: (RCacheA b3_0_1 y3_0.2) :: (IntsA a2_7 c2_7 l2_7) :: (IntsA a2_3 c2_3 l2_3) :: Γ = ΔΔ) (by kernel_rfl) ?_ ?_
    · rintro _ _ ⟨e0_16, H, rfl, rfl⟩
      rw [attachReadsS_j0] at H
      refine at_ret (by kernel_rfl) ?_
      refine at_then_ret ?_
      obtain rfl := someE H
      refine at_backR [.bool e0_16] (Γ) (rs := [.tmp 16]) (by kernel_rfl) (.cons (.tmp (by kernel_rfl)) .nil) (fun w hw => (Sat.less (.drop .here (.drop .here (.drop .here (.drop .here (.drop .here (.drop .here .refl)))))) hw)) ?_
      exact ⟨rfl, rfl⟩
    · refine at_region (id := 11) 51 (by kernel_rfl) (by kernel_rfl) ?_
      refine s_pure 79 (.bool y8_7.2.1) (by kernel_rfl) (by kernel_rfl) (fun _ => by kernel_rfl) ?_
      rcases Bool.eq_false_or_eq_true (y8_7.2.1) with h2 | h2
      · replace H := bifT H h2
        refine s_pure 80 (.bool true) (by kernel_rfl) (by kernel_rfl) (run_eq (v := .bool (y8_7.2.1)) (fun _ => by kernel_rfl) (congrArg Value.bool h2)) ?_
        refine s_pure 81 (.bool y9_2.2) (by kernel_rfl) (by kernel_rfl) (fun _ => by kernel_rfl) ?_
        refine s_pure 82 (.bool y9_2.2) (by kernel_rfl) (by kernel_rfl) (fun _ => by kernel_rfl) ?_
        rcases Bool.eq_false_or_eq_true (y9_2.2) with h3 | h3
        · replace H := bifT H h3
          refine s_pure 83 (.bool true) (by kernel_rfl) (by kernel_rfl) (run_eq (v := .bool (y9_2.2)) (fun _ => by kernel_rfl) (congrArg Value.bool h3)) ?_
          refine s_pure 84 (.pointer (some ⟨b9_6, 0, none⟩)) (by kernel_rfl) (by kernel_rfl) (fun _ => by kernel_rfl) ?_
          refine s_load 85 (.agg #[.int .i64 y9_2.1.fwd, .int .i64 y9_2.1.back]) (by kernel_rfl) (by kernel_rfl) (loadN (off := 0) (vs := [.int .i64 y9_2.1.fwd, .int .i64 y9_2.1.back]) 2 (fun _ => by kernel_rfl) (holds_own (.there (.there .here))) rfl (by exact ⟨rfl, rfl, trivial⟩)) ?_
          obtain ⟨y11_7, hy11_7, H⟩ := bindE H
          refine s_quiet 86 (.bool y11_7) 19 #[.agg #[.int .i64 y9_2.1.fwd, .int .i64 y9_2.1.back]] (by kernel_rfl) (by kernel_rfl) (fun _ => by kernel_rfl) (LOnlyF_tr (⟨y9_2.1.fwd, y9_2.1.back⟩ : LinkS) y11_7 hy11_7) ?_
          refine s_pure 87 (.bool y11_7) (by kernel_rfl) (by kernel_rfl) (fun _ => by kernel_rfl) ?_
          rcases Bool.eq_false_or_eq_true (y11_7) with h4 | h4
          · replace H := bifT H h4
            refine s_pure 88 (.bool true) (by kernel_rfl) (by kernel_rfl) (run_eq (v := .bool (y11_7)) (fun _ => by kernel_rfl) (congrArg Value.bool h4)) ?_
            refine s_pure 89 (.pointer (some ⟨b9_6, 4, none⟩)) (by kernel_rfl) (by kernel_rfl) (fun _ => by kernel_rfl) ?_
            refine s_load 90 (.bool y9_2.1.dirty) (by kernel_rfl) (by kernel_rfl) (load1 (off := 4) (fun _ => by kernel_rfl) (holds_own (.there (.there .here))) (by kernel_rfl)) ?_
            refine s_pure 91 (.bool !y9_2.1.dirty) (by kernel_rfl) (by kernel_rfl) (fun _ => by kernel_rfl) ?_
            refine s_pure 92 (.bool !y9_2.1.dirty) (by kernel_rfl) (by kernel_rfl) (fun _ => by kernel_rfl) ?_
            rcases Bool.eq_false_or_eq_true (!y9_2.1.dirty) with h5 | h5
            · replace H := bifT H h5
              refine s_pure 93 (.bool true) (by kernel_rfl) (by kernel_rfl) (run_eq (v := .bool (!y9_2.1.dirty)) (fun _ => by kernel_rfl) (congrArg Value.bool h5)) ?_
              refine s_pure 94 (.pointer (some ⟨b9_6, 5, none⟩)) (by kernel_rfl) (by kernel_rfl) (fun _ => by kernel_rfl) ?_
              refine s_load 95 (.slice a9_2_00 (List.length y9_2.1.data) c9_2_00) (by kernel_rfl) (by kernel_rfl) (load1 (off := 5) (fun _ => by kernel_rfl) (holds_own (.there (.there .here))) (by kernel_rfl)) ?_
              refine s_pure 96 (.slice a2_3 (List.length l2_3) c2_3) (by kernel_rfl) (by kernel_rfl) (fun _ => by kernel_rfl) ?_
              obtain ⟨y11_18, hy11_18, H⟩ := bindE H
              refine s_call 97 27 #[.slice a9_2_00 (List.length y9_2.1.data) c9_2_00, .slice a2_3 (List.length l2_3) c2_3] (by kernel_rfl) (by kernel_rfl) (fun _ => by kernel_rfl) (KSameF_tr a9_2_00 c9_2_00 y9_2.1.data a2_3 c2_3 l2_3 (RowsA.reads (k := 1) (.there (.there (.there .here)))) (RowsA.reads (k := 1) (.there (.there (.there (.there (.there (.there (.there (.there (.there (.there (.there (.there .here))))))))))))) y11_18 hy11_18) ?_
              rintro _ _ ⟨rfl, rfl⟩
              refine s_pure 98 (.bool y11_18) (by kernel_rfl) (by kernel_rfl) (fun _ => by kernel_rfl) ?_
              rcases Bool.eq_false_or_eq_true (y11_18) with h6 | h6
              · replace H := bifT H h6
                refine s_pure 99 (.bool true) (by kernel_rfl) (by kernel_rfl) (run_eq (v := .bool (y11_18)) (fun _ => by kernel_rfl) (congrArg Value.bool h6)) ?_
                refine s_pure 100 (.pointer (some ⟨b10_3, 0, none⟩)) (by kernel_rfl) (by kernel_rfl) (fun _ => by kernel_rfl) ?_
                refine s_load 101 (.int .i64 y10_2.kind) (by kernel_rfl) (by kernel_rfl) (load1 (off := 0) (fun _ => by kernel_rfl) (holds_own .here) (by kernel_rfl)) ?_
                refine s_pure 102 (.bool (decide (y10_2.kind = (2 : Int)))) (by kernel_rfl) (by kernel_rfl) (fun _ => by kernel_rfl) ?_
                refine s_pure 103 (.bool (decide (y10_2.kind = (2 : Int)))) (by kernel_rfl) (by kernel_rfl) (fun _ => by kernel_rfl) ?_
                rcases Bool.eq_false_or_eq_true (decide (y10_2.kind = (2 : Int))) with h7 | h7
                · replace H := bifT H h7
                  refine s_pure 104 (.bool true) (by kernel_rfl) (by kernel_rfl) (run_eq (v := .bool (decide (y10_2.kind = (2 : Int)))) (fun _ => by kernel_rfl) (congrArg Value.bool h7)) ?_
                  refine s_pure 105 (.pointer (some ⟨b10_3, 6, none⟩)) (by kernel_rfl) (by kernel_rfl) (fun _ => by kernel_rfl) ?_
                  refine s_load 106 (.int .i64 y10_2.state) (by kernel_rfl) (by kernel_rfl) (load1 (off := 6) (fun _ => by kernel_rfl) (holds_own .here) (by kernel_rfl)) ?_
                  refine s_pure 107 (.bool (decide (y10_2.state = (1 : Int)))) (by kernel_rfl) (by kernel_rfl) (fun _ => by kernel_rfl) ?_
                  refine s_pure 108 (.bool (decide (y10_2.state = (1 : Int)))) (by kernel_rfl) (by kernel_rfl) (fun _ => by kernel_rfl) ?_
                  rcases Bool.eq_false_or_eq_true (decide (y10_2.state = (1 : Int))) with h8 | h8
                  · replace H := bifT H h8
                    refine s_pure 109 (.bool true) (by kernel_rfl) (by kernel_rfl) (run_eq (v := .bool (decide (y10_2.state = (1 : Int)))) (fun _ => by kernel_rfl) (congrArg Value.bool h8)) ?_
                    refine s_pure 110 (.pointer (some ⟨b10_3, 5, none⟩)) (by kernel_rfl) (by kernel_rfl) (fun _ => by kernel_rfl) ?_
                    refine s_load 111 (.int .i64 y10_2.ptr) (by kernel_rfl) (by kernel_rfl) (load1 (off := 5) (fun _ => by kernel_rfl) (holds_own .here) (by kernel_rfl)) ?_
                    refine s_pure 112 (.int .i64 y1_5) (by kernel_rfl) (by kernel_rfl) (fun _ => by kernel_rfl) ?_
                    refine s_pure 113 (.bool (decide (y10_2.ptr = y1_5))) (by kernel_rfl) (by kernel_rfl) (fun _ => by kernel_rfl) ?_
                    refine s_pure 114 (.bool (decide (y10_2.ptr = y1_5))) (by kernel_rfl) (by kernel_rfl) (fun _ => by kernel_rfl) ?_
                    rcases Bool.eq_false_or_eq_true (decide (y10_2.ptr = y1_5)) with h9 | h9
                    · replace H := bifT H h9
                      refine s_pure 115 (.bool true) (by kernel_rfl) (by kernel_rfl) (run_eq (v := .bool (decide (y10_2.ptr = y1_5))) (fun _ => by kernel_rfl) (congrArg Value.bool h9)) ?_
                      refine s_pure 116 (.pointer (some ⟨b10_3, 7, none⟩)) (by kernel_rfl) (by kernel_rfl) (fun _ => by kernel_rfl) ?_
                      refine s_load 117 (.bool y10_2.flag) (by kernel_rfl) (by kernel_rfl) (load1 (off := 7) (fun _ => by kernel_rfl) (holds_own .here) (by kernel_rfl)) ?_
                      refine s_pure 118 (.bool !y10_2.flag) (by kernel_rfl) (by kernel_rfl) (fun _ => by kernel_rfl) ?_
                      refine s_pure 119 (.bool !y10_2.flag) (by kernel_rfl) (by kernel_rfl) (fun _ => by kernel_rfl) ?_
                      rcases Bool.eq_false_or_eq_true (!y10_2.flag) with h10 | h10
                      · replace H := bifT H h10
                        refine s_pure 120 (.bool true) (by kernel_rfl) (by kernel_rfl) (run_eq (v := .bool (!y10_2.flag)) (fun _ => by kernel_rfl) (congrArg Value.bool h10)) ?_
                        refine s_pure 121 (.pointer (some ⟨b10_3, 8, none⟩)) (by kernel_rfl) (by kernel_rfl) (fun _ => by kernel_rfl) ?_
                        refine s_load 122 (.slice a10_2_00 (List.length y10_2.data) c10_2_00) (by kernel_rfl) (by kernel_rfl) (load1 (off := 8) (fun _ => by kernel_rfl) (holds_own .here) (by kernel_rfl)) ?_
                        refine s_pure 123 (.int .i64 (((List.length y10_2.data) : Nat) : Int)) (by kernel_rfl) (by kernel_rfl) (fun _ => by kernel_rfl) ?_
                        refine s_pure 124 (.bool (decide ((((List.length y10_2.data) : Nat) : Int) = (0 : Int)))) (by kernel_rfl) (by kernel_rfl) (fun _ => by kernel_rfl) ?_
                        refine s_pure 125 (.bool (decide ((((List.length y10_2.data) : Nat) : Int) = (0 : Int)))) (by kernel_rfl) (by kernel_rfl) (fun _ => by kernel_rfl) ?_
                        rcases Bool.eq_false_or_eq_true (decide ((((List.length y10_2.data) : Nat) : Int) = (0 : Int))) with h11 | h11
                        · replace H := bifT H h11
                          refine s_pure 126 (.bool true) (by kernel_rfl) (by kernel_rfl) (run_eq (v := .bool (decide ((((List.length y10_2.data) : Nat) : Int) = (0 : Int)))) (fun _ => by kernel_rfl) (congrArg Value.bool h11)) ?_
                          obtain ⟨y11_48, hy11_48, H⟩ := bindE H
                          refine s_call 127 28 #[] (by kernel_rfl) (by kernel_rfl) (fun _ => by kernel_rfl) (W14F_tr  y11_48 hy11_48) ?_
                          rintro _ _ ⟨rfl, rfl⟩
                          refine s_pure 128 (.bool y11_48) (by kernel_rfl) (by kernel_rfl) (fun _ => by kernel_rfl) ?_
                          refine s_pure 16 (.bool y11_48) (by kernel_rfl) (by kernel_rfl) (fun _ => by kernel_rfl) ?_
                          refine ops_end ?_
                          refine At.env [(0, .int .i64 y1_1), (1, .int .i64 y1_3), (2, .int .i64 y1_5), (3, .int .i64 (wr ((3 : Int) + y1_7))), (4, .slice a2_3 (List.length l2_3) c2_3), (5, .slice a2_7 (List.length l2_7) c2_7), (6, .bool fresh), (7, .bool dirty), (16, .bool y11_48), (17, .pointer (some ⟨b3_0_0, 0, none⟩)), (19, .pointer (some ⟨b6_3, 0, none⟩)), (20, .pointer (some ⟨b8_11, 0, none⟩)), (21, .bool y8_7.2.1), (22, .pointer (some ⟨b9_6, 0, none⟩)), (23, .bool y9_2.2), (24, .pointer (some ⟨b10_3, 0, none⟩)), (54, .bool false), (58, .bool fresh)] ⟨by kernel_rfl, by kernel_rfl, by kernel_rfl, by kernel_rfl, by kernel_rfl, by kernel_rfl, by kernel_rfl, by kernel_rfl, by kernel_rfl, by kernel_rfl, by kernel_rfl, by kernel_rfl, by kernel_rfl, by kernel_rfl, by kernel_rfl, by kernel_rfl, by kernel_rfl, by kernel_rfl, trivial⟩ ?_
                          refine at_round_normal ?_
                          exact at_join_mk [(0, .int .i64 y1_1), (1, .int .i64 y1_3), (2, .int .i64 y1_5), (3, .int .i64 (wr ((3 : Int) + y1_7))), (4, .slice a2_3 (List.length l2_3) c2_3), (5, .slice a2_7 (List.length l2_7) c2_7), (7, .bool dirty), (16, .bool y11_48), (17, .pointer (some ⟨b3_0_0, 0, none⟩)), (19, .pointer (some ⟨b6_3, 0, none⟩))] ((CacheA b3_0_0 y8_7.2.2) :: (ImmI a6_2_00 y6_2.data) :: (Asn.own b6_3 (.cells #[.int .i64 y6_2.kind, .int .i64 y6_2.line, .int .i64 y6_2.id, .int .i64 y6_2.step, .int .i64 y6_2.state, .int .i64 y6_2.head, .slice a6_2_00 (List.length y6_2.data) c6_2_00, .int .i64 y6_2.next, .int .i64 y6_2.told] 35 (0, 0))) :: (RCacheA b3_0_1 y3_0.2) :: (IntsA a2_7 c2_7 l2_7) :: (IntsA a2_3 c2_3 l2_3) :: Γ) ⟨by kernel_rfl, by kernel_rfl, by kernel_rfl, by kernel_rfl, by kernel_rfl, by kernel_rfl, by kernel_rfl, by kernel_rfl, by kernel_rfl, by kernel_rfl, trivial⟩ (fun w hw => (Sat.less (.take (.there (.there (.there (.there .here)))) (.take (.there (.there (.there (.there (.there (.there .here)))))) (.take (.there (.there (.there (.there (.there (.there .here)))))) (.take (.there (.there (.there (.there (.there (.there .here)))))) (.take (.there (.there (.there (.there (.there (.there .here)))))) (.take (.there (.there (.there (.there (.there (.there (.there .here))))))) (.drop .here (.drop .here (.drop .here (.drop .here (.drop .here (.drop .here (.drop .here (.drop .here .refl)))))))))))))) hw)) ⟨y11_48, H, rfl, rfl⟩
                        · replace H := bifF H h11
                          refine s_pure 126 (.bool false) (by kernel_rfl) (by kernel_rfl) (run_eq (v := .bool (decide ((((List.length y10_2.data) : Nat) : Int) = (0 : Int)))) (fun _ => by kernel_rfl) (congrArg Value.bool h11)) ?_
                          refine s_pass 127 (by kernel_rfl) (by kernel_rfl) ?_
                          refine s_pure 128 (.bool false) (by kernel_rfl) (by kernel_rfl) (fun _ => by kernel_rfl) ?_
                          refine s_pure 16 (.bool false) (by kernel_rfl) (by kernel_rfl) (fun _ => by kernel_rfl) ?_
                          refine ops_end ?_
                          refine At.env [(0, .int .i64 y1_1), (1, .int .i64 y1_3), (2, .int .i64 y1_5), (3, .int .i64 (wr ((3 : Int) + y1_7))), (4, .slice a2_3 (List.length l2_3) c2_3), (5, .slice a2_7 (List.length l2_7) c2_7), (6, .bool fresh), (7, .bool dirty), (16, .bool false), (17, .pointer (some ⟨b3_0_0, 0, none⟩)), (19, .pointer (some ⟨b6_3, 0, none⟩)), (20, .pointer (some ⟨b8_11, 0, none⟩)), (21, .bool y8_7.2.1), (22, .pointer (some ⟨b9_6, 0, none⟩)), (23, .bool y9_2.2), (24, .pointer (some ⟨b10_3, 0, none⟩)), (54, .bool false), (58, .bool fresh)] ⟨by kernel_rfl, by kernel_rfl, by kernel_rfl, by kernel_rfl, by kernel_rfl, by kernel_rfl, by kernel_rfl, by kernel_rfl, by kernel_rfl, by kernel_rfl, by kernel_rfl, by kernel_rfl, by kernel_rfl, by kernel_rfl, by kernel_rfl, by kernel_rfl, by kernel_rfl, by kernel_rfl, trivial⟩ ?_
                          refine at_round_normal ?_
                          exact at_join_mk [(0, .int .i64 y1_1), (1, .int .i64 y1_3), (2, .int .i64 y1_5), (3, .int .i64 (wr ((3 : Int) + y1_7))), (4, .slice a2_3 (List.length l2_3) c2_3), (5, .slice a2_7 (List.length l2_7) c2_7), (7, .bool dirty), (16, .bool false), (17, .pointer (some ⟨b3_0_0, 0, none⟩)), (19, .pointer (some ⟨b6_3, 0, none⟩))] ((CacheA b3_0_0 y8_7.2.2) :: (ImmI a6_2_00 y6_2.data) :: (Asn.own b6_3 (.cells #[.int .i64 y6_2.kind, .int .i64 y6_2.line, .int .i64 y6_2.id, .int .i64 y6_2.step, .int .i64 y6_2.state, .int .i64 y6_2.head, .slice a6_2_00 (List.length y6_2.data) c6_2_00, .int .i64 y6_2.next, .int .i64 y6_2.told] 35 (0, 0))) :: (RCacheA b3_0_1 y3_0.2) :: (IntsA a2_7 c2_7 l2_7) :: (IntsA a2_3 c2_3 l2_3) :: Γ) ⟨by kernel_rfl, by kernel_rfl, by kernel_rfl, by kernel_rfl, by kernel_rfl, by kernel_rfl, by kernel_rfl, by kernel_rfl, by kernel_rfl, by kernel_rfl, trivial⟩ (fun w hw => (Sat.less (.take (.there (.there (.there (.there .here)))) (.take (.there (.there (.there (.there (.there (.there .here)))))) (.take (.there (.there (.there (.there (.there (.there .here)))))) (.take (.there (.there (.there (.there (.there (.there .here)))))) (.take (.there (.there (.there (.there (.there (.there .here)))))) (.take (.there (.there (.there (.there (.there (.there (.there .here))))))) (.drop .here (.drop .here (.drop .here (.drop .here (.drop .here (.drop .here (.drop .here (.drop .here .refl)))))))))))))) hw)) ⟨false, H, rfl, rfl⟩
                      · replace H := bifF H h10
                        refine s_pure 120 (.bool false) (by kernel_rfl) (by kernel_rfl) (run_eq (v := .bool (!y10_2.flag)) (fun _ => by kernel_rfl) (congrArg Value.bool h10)) ?_
                        refine s_pass 121 (by kernel_rfl) (by kernel_rfl) ?_
                        refine s_pass 122 (by kernel_rfl) (by kernel_rfl) ?_
                        refine s_pass 123 (by kernel_rfl) (by kernel_rfl) ?_
                        refine s_pass 124 (by kernel_rfl) (by kernel_rfl) ?_
                        refine s_pure 125 (.bool false) (by kernel_rfl) (by kernel_rfl) (fun _ => by kernel_rfl) ?_
                        refine s_pure 126 (.bool false) (by kernel_rfl) (by kernel_rfl) (fun _ => by kernel_rfl) ?_
                        refine s_pass 127 (by kernel_rfl) (by kernel_rfl) ?_
                        refine s_pure 128 (.bool false) (by kernel_rfl) (by kernel_rfl) (fun _ => by kernel_rfl) ?_
                        refine s_pure 16 (.bool false) (by kernel_rfl) (by kernel_rfl) (fun _ => by kernel_rfl) ?_
                        refine ops_end ?_
                        refine At.env [(0, .int .i64 y1_1), (1, .int .i64 y1_3), (2, .int .i64 y1_5), (3, .int .i64 (wr ((3 : Int) + y1_7))), (4, .slice a2_3 (List.length l2_3) c2_3), (5, .slice a2_7 (List.length l2_7) c2_7), (6, .bool fresh), (7, .bool dirty), (16, .bool false), (17, .pointer (some ⟨b3_0_0, 0, none⟩)), (19, .pointer (some ⟨b6_3, 0, none⟩)), (20, .pointer (some ⟨b8_11, 0, none⟩)), (21, .bool y8_7.2.1), (22, .pointer (some ⟨b9_6, 0, none⟩)), (23, .bool y9_2.2), (24, .pointer (some ⟨b10_3, 0, none⟩)), (54, .bool false), (58, .bool fresh)] ⟨by kernel_rfl, by kernel_rfl, by kernel_rfl, by kernel_rfl, by kernel_rfl, by kernel_rfl, by kernel_rfl, by kernel_rfl, by kernel_rfl, by kernel_rfl, by kernel_rfl, by kernel_rfl, by kernel_rfl, by kernel_rfl, by kernel_rfl, by kernel_rfl, by kernel_rfl, by kernel_rfl, trivial⟩ ?_
                        refine at_round_normal ?_
                        exact at_join_mk [(0, .int .i64 y1_1), (1, .int .i64 y1_3), (2, .int .i64 y1_5), (3, .int .i64 (wr ((3 : Int) + y1_7))), (4, .slice a2_3 (List.length l2_3) c2_3), (5, .slice a2_7 (List.length l2_7) c2_7), (7, .bool dirty), (16, .bool false), (17, .pointer (some ⟨b3_0_0, 0, none⟩)), (19, .pointer (some ⟨b6_3, 0, none⟩))] ((CacheA b3_0_0 y8_7.2.2) :: (ImmI a6_2_00 y6_2.data) :: (Asn.own b6_3 (.cells #[.int .i64 y6_2.kind, .int .i64 y6_2.line, .int .i64 y6_2.id, .int .i64 y6_2.step, .int .i64 y6_2.state, .int .i64 y6_2.head, .slice a6_2_00 (List.length y6_2.data) c6_2_00, .int .i64 y6_2.next, .int .i64 y6_2.told] 35 (0, 0))) :: (RCacheA b3_0_1 y3_0.2) :: (IntsA a2_7 c2_7 l2_7) :: (IntsA a2_3 c2_3 l2_3) :: Γ) ⟨by kernel_rfl, by kernel_rfl, by kernel_rfl, by kernel_rfl, by kernel_rfl, by kernel_rfl, by kernel_rfl, by kernel_rfl, by kernel_rfl, by kernel_rfl, trivial⟩ (fun w hw => (Sat.less (.take (.there (.there (.there (.there .here)))) (.take (.there (.there (.there (.there (.there (.there .here)))))) (.take (.there (.there (.there (.there (.there (.there .here)))))) (.take (.there (.there (.there (.there (.there (.there .here)))))) (.take (.there (.there (.there (.there (.there (.there .here)))))) (.take (.there (.there (.there (.there (.there (.there (.there .here))))))) (.drop .here (.drop .here (.drop .here (.drop .here (.drop .here (.drop .here (.drop .here (.drop .here .refl)))))))))))))) hw)) ⟨false, H, rfl, rfl⟩
                    · replace H := bifF H h9
                      refine s_pure 115 (.bool false) (by kernel_rfl) (by kernel_rfl) (run_eq (v := .bool (decide (y10_2.ptr = y1_5))) (fun _ => by kernel_rfl) (congrArg Value.bool h9)) ?_
                      refine s_pass 116 (by kernel_rfl) (by kernel_rfl) ?_
                      refine s_pass 117 (by kernel_rfl) (by kernel_rfl) ?_
                      refine s_pass 118 (by kernel_rfl) (by kernel_rfl) ?_
                      refine s_pure 119 (.bool false) (by kernel_rfl) (by kernel_rfl) (fun _ => by kernel_rfl) ?_
                      refine s_pure 120 (.bool false) (by kernel_rfl) (by kernel_rfl) (fun _ => by kernel_rfl) ?_
                      refine s_pass 121 (by kernel_rfl) (by kernel_rfl) ?_
                      refine s_pass 122 (by kernel_rfl) (by kernel_rfl) ?_
                      refine s_pass 123 (by kernel_rfl) (by kernel_rfl) ?_
                      refine s_pass 124 (by kernel_rfl) (by kernel_rfl) ?_
                      refine s_pure 125 (.bool false) (by kernel_rfl) (by kernel_rfl) (fun _ => by kernel_rfl) ?_
                      refine s_pure 126 (.bool false) (by kernel_rfl) (by kernel_rfl) (fun _ => by kernel_rfl) ?_
                      refine s_pass 127 (by kernel_rfl) (by kernel_rfl) ?_
                      refine s_pure 128 (.bool false) (by kernel_rfl) (by kernel_rfl) (fun _ => by kernel_rfl) ?_
                      refine s_pure 16 (.bool false) (by kernel_rfl) (by kernel_rfl) (fun _ => by kernel_rfl) ?_
                      refine ops_end ?_
                      refine At.env [(0, .int .i64 y1_1), (1, .int .i64 y1_3), (2, .int .i64 y1_5), (3, .int .i64 (wr ((3 : Int) + y1_7))), (4, .slice a2_3 (List.length l2_3) c2_3), (5, .slice a2_7 (List.length l2_7) c2_7), (6, .bool fresh), (7, .bool dirty), (16, .bool false), (17, .pointer (some ⟨b3_0_0, 0, none⟩)), (19, .pointer (some ⟨b6_3, 0, none⟩)), (20, .pointer (some ⟨b8_11, 0, none⟩)), (21, .bool y8_7.2.1), (22, .pointer (some ⟨b9_6, 0, none⟩)), (23, .bool y9_2.2), (24, .pointer (some ⟨b10_3, 0, none⟩)), (54, .bool false), (58, .bool fresh)] ⟨by kernel_rfl, by kernel_rfl, by kernel_rfl, by kernel_rfl, by kernel_rfl, by kernel_rfl, by kernel_rfl, by kernel_rfl, by kernel_rfl, by kernel_rfl, by kernel_rfl, by kernel_rfl, by kernel_rfl, by kernel_rfl, by kernel_rfl, by kernel_rfl, by kernel_rfl, by kernel_rfl, trivial⟩ ?_
                      refine at_round_normal ?_
                      exact at_join_mk [(0, .int .i64 y1_1), (1, .int .i64 y1_3), (2, .int .i64 y1_5), (3, .int .i64 (wr ((3 : Int) + y1_7))), (4, .slice a2_3 (List.length l2_3) c2_3), (5, .slice a2_7 (List.length l2_7) c2_7), (7, .bool dirty), (16, .bool false), (17, .pointer (some ⟨b3_0_0, 0, none⟩)), (19, .pointer (some ⟨b6_3, 0, none⟩))] ((CacheA b3_0_0 y8_7.2.2) :: (ImmI a6_2_00 y6_2.data) :: (Asn.own b6_3 (.cells #[.int .i64 y6_2.kind, .int .i64 y6_2.line, .int .i64 y6_2.id, .int .i64 y6_2.step, .int .i64 y6_2.state, .int .i64 y6_2.head, .slice a6_2_00 (List.length y6_2.data) c6_2_00, .int .i64 y6_2.next, .int .i64 y6_2.told] 35 (0, 0))) :: (RCacheA b3_0_1 y3_0.2) :: (IntsA a2_7 c2_7 l2_7) :: (IntsA a2_3 c2_3 l2_3) :: Γ) ⟨by kernel_rfl, by kernel_rfl, by kernel_rfl, by kernel_rfl, by kernel_rfl, by kernel_rfl, by kernel_rfl, by kernel_rfl, by kernel_rfl, by kernel_rfl, trivial⟩ (fun w hw => (Sat.less (.take (.there (.there (.there (.there .here)))) (.take (.there (.there (.there (.there (.there (.there .here)))))) (.take (.there (.there (.there (.there (.there (.there .here)))))) (.take (.there (.there (.there (.there (.there (.there .here)))))) (.take (.there (.there (.there (.there (.there (.there .here)))))) (.take (.there (.there (.there (.there (.there (.there (.there .here))))))) (.drop .here (.drop .here (.drop .here (.drop .here (.drop .here (.drop .here (.drop .here (.drop .here .refl)))))))))))))) hw)) ⟨false, H, rfl, rfl⟩
                  · replace H := bifF H h8
                    refine s_pure 109 (.bool false) (by kernel_rfl) (by kernel_rfl) (run_eq (v := .bool (decide (y10_2.state = (1 : Int)))) (fun _ => by kernel_rfl) (congrArg Value.bool h8)) ?_
                    refine s_pass 110 (by kernel_rfl) (by kernel_rfl) ?_
                    refine s_pass 111 (by kernel_rfl) (by kernel_rfl) ?_
                    refine s_pass 112 (by kernel_rfl) (by kernel_rfl) ?_
                    refine s_pass 113 (by kernel_rfl) (by kernel_rfl) ?_
                    refine s_pure 114 (.bool false) (by kernel_rfl) (by kernel_rfl) (fun _ => by kernel_rfl) ?_
                    refine s_pure 115 (.bool false) (by kernel_rfl) (by kernel_rfl) (fun _ => by kernel_rfl) ?_
                    refine s_pass 116 (by kernel_rfl) (by kernel_rfl) ?_
                    refine s_pass 117 (by kernel_rfl) (by kernel_rfl) ?_
                    refine s_pass 118 (by kernel_rfl) (by kernel_rfl) ?_
                    refine s_pure 119 (.bool false) (by kernel_rfl) (by kernel_rfl) (fun _ => by kernel_rfl) ?_
                    refine s_pure 120 (.bool false) (by kernel_rfl) (by kernel_rfl) (fun _ => by kernel_rfl) ?_
                    refine s_pass 121 (by kernel_rfl) (by kernel_rfl) ?_
                    refine s_pass 122 (by kernel_rfl) (by kernel_rfl) ?_
                    refine s_pass 123 (by kernel_rfl) (by kernel_rfl) ?_
                    refine s_pass 124 (by kernel_rfl) (by kernel_rfl) ?_
                    refine s_pure 125 (.bool false) (by kernel_rfl) (by kernel_rfl) (fun _ => by kernel_rfl) ?_
                    refine s_pure 126 (.bool false) (by kernel_rfl) (by kernel_rfl) (fun _ => by kernel_rfl) ?_
                    refine s_pass 127 (by kernel_rfl) (by kernel_rfl) ?_
                    refine s_pure 128 (.bool false) (by kernel_rfl) (by kernel_rfl) (fun _ => by kernel_rfl) ?_
                    refine s_pure 16 (.bool false) (by kernel_rfl) (by kernel_rfl) (fun _ => by kernel_rfl) ?_
                    refine ops_end ?_
                    refine At.env [(0, .int .i64 y1_1), (1, .int .i64 y1_3), (2, .int .i64 y1_5), (3, .int .i64 (wr ((3 : Int) + y1_7))), (4, .slice a2_3 (List.length l2_3) c2_3), (5, .slice a2_7 (List.length l2_7) c2_7), (6, .bool fresh), (7, .bool dirty), (16, .bool false), (17, .pointer (some ⟨b3_0_0, 0, none⟩)), (19, .pointer (some ⟨b6_3, 0, none⟩)), (20, .pointer (some ⟨b8_11, 0, none⟩)), (21, .bool y8_7.2.1), (22, .pointer (some ⟨b9_6, 0, none⟩)), (23, .bool y9_2.2), (24, .pointer (some ⟨b10_3, 0, none⟩)), (54, .bool false), (58, .bool fresh)] ⟨by kernel_rfl, by kernel_rfl, by kernel_rfl, by kernel_rfl, by kernel_rfl, by kernel_rfl, by kernel_rfl, by kernel_rfl, by kernel_rfl, by kernel_rfl, by kernel_rfl, by kernel_rfl, by kernel_rfl, by kernel_rfl, by kernel_rfl, by kernel_rfl, by kernel_rfl, by kernel_rfl, trivial⟩ ?_
                    refine at_round_normal ?_
                    exact at_join_mk [(0, .int .i64 y1_1), (1, .int .i64 y1_3), (2, .int .i64 y1_5), (3, .int .i64 (wr ((3 : Int) + y1_7))), (4, .slice a2_3 (List.length l2_3) c2_3), (5, .slice a2_7 (List.length l2_7) c2_7), (7, .bool dirty), (16, .bool false), (17, .pointer (some ⟨b3_0_0, 0, none⟩)), (19, .pointer (some ⟨b6_3, 0, none⟩))] ((CacheA b3_0_0 y8_7.2.2) :: (ImmI a6_2_00 y6_2.data) :: (Asn.own b6_3 (.cells #[.int .i64 y6_2.kind, .int .i64 y6_2.line, .int .i64 y6_2.id, .int .i64 y6_2.step, .int .i64 y6_2.state, .int .i64 y6_2.head, .slice a6_2_00 (List.length y6_2.data) c6_2_00, .int .i64 y6_2.next, .int .i64 y6_2.told] 35 (0, 0))) :: (RCacheA b3_0_1 y3_0.2) :: (IntsA a2_7 c2_7 l2_7) :: (IntsA a2_3 c2_3 l2_3) :: Γ) ⟨by kernel_rfl, by kernel_rfl, by kernel_rfl, by kernel_rfl, by kernel_rfl, by kernel_rfl, by kernel_rfl, by kernel_rfl, by kernel_rfl, by kernel_rfl, trivial⟩ (fun w hw => (Sat.less (.take (.there (.there (.there (.there .here)))) (.take (.there (.there (.there (.there (.there (.there .here)))))) (.take (.there (.there (.there (.there (.there (.there .here)))))) (.take (.there (.there (.there (.there (.there (.there .here)))))) (.take (.there (.there (.there (.there (.there (.there .here)))))) (.take (.there (.there (.there (.there (.there (.there (.there .here))))))) (.drop .here (.drop .here (.drop .here (.drop .here (.drop .here (.drop .here (.drop .here (.drop .here .refl)))))))))))))) hw)) ⟨false, H, rfl, rfl⟩
                · replace H := bifF H h7
                  refine s_pure 104 (.bool false) (by kernel_rfl) (by kernel_rfl) (run_eq (v := .bool (decide (y10_2.kind = (2 : Int)))) (fun _ => by kernel_rfl) (congrArg Value.bool h7)) ?_
                  refine s_pass 105 (by kernel_rfl) (by kernel_rfl) ?_
                  refine s_pass 106 (by kernel_rfl) (by kernel_rfl) ?_
                  refine s_pass 107 (by kernel_rfl) (by kernel_rfl) ?_
                  refine s_pure 108 (.bool false) (by kernel_rfl) (by kernel_rfl) (fun _ => by kernel_rfl) ?_
                  refine s_pure 109 (.bool false) (by kernel_rfl) (by kernel_rfl) (fun _ => by kernel_rfl) ?_
                  refine s_pass 110 (by kernel_rfl) (by kernel_rfl) ?_
                  refine s_pass 111 (by kernel_rfl) (by kernel_rfl) ?_
                  refine s_pass 112 (by kernel_rfl) (by kernel_rfl) ?_
                  refine s_pass 113 (by kernel_rfl) (by kernel_rfl) ?_
                  refine s_pure 114 (.bool false) (by kernel_rfl) (by kernel_rfl) (fun _ => by kernel_rfl) ?_
                  refine s_pure 115 (.bool false) (by kernel_rfl) (by kernel_rfl) (fun _ => by kernel_rfl) ?_
                  refine s_pass 116 (by kernel_rfl) (by kernel_rfl) ?_
                  refine s_pass 117 (by kernel_rfl) (by kernel_rfl) ?_
                  refine s_pass 118 (by kernel_rfl) (by kernel_rfl) ?_
                  refine s_pure 119 (.bool false) (by kernel_rfl) (by kernel_rfl) (fun _ => by kernel_rfl) ?_
                  refine s_pure 120 (.bool false) (by kernel_rfl) (by kernel_rfl) (fun _ => by kernel_rfl) ?_
                  refine s_pass 121 (by kernel_rfl) (by kernel_rfl) ?_
                  refine s_pass 122 (by kernel_rfl) (by kernel_rfl) ?_
                  refine s_pass 123 (by kernel_rfl) (by kernel_rfl) ?_
                  refine s_pass 124 (by kernel_rfl) (by kernel_rfl) ?_
                  refine s_pure 125 (.bool false) (by kernel_rfl) (by kernel_rfl) (fun _ => by kernel_rfl) ?_
                  refine s_pure 126 (.bool false) (by kernel_rfl) (by kernel_rfl) (fun _ => by kernel_rfl) ?_
                  refine s_pass 127 (by kernel_rfl) (by kernel_rfl) ?_
                  refine s_pure 128 (.bool false) (by kernel_rfl) (by kernel_rfl) (fun _ => by kernel_rfl) ?_
                  refine s_pure 16 (.bool false) (by kernel_rfl) (by kernel_rfl) (fun _ => by kernel_rfl) ?_
                  refine ops_end ?_
                  refine At.env [(0, .int .i64 y1_1), (1, .int .i64 y1_3), (2, .int .i64 y1_5), (3, .int .i64 (wr ((3 : Int) + y1_7))), (4, .slice a2_3 (List.length l2_3) c2_3), (5, .slice a2_7 (List.length l2_7) c2_7), (6, .bool fresh), (7, .bool dirty), (16, .bool false), (17, .pointer (some ⟨b3_0_0, 0, none⟩)), (19, .pointer (some ⟨b6_3, 0, none⟩)), (20, .pointer (some ⟨b8_11, 0, none⟩)), (21, .bool y8_7.2.1), (22, .pointer (some ⟨b9_6, 0, none⟩)), (23, .bool y9_2.2), (24, .pointer (some ⟨b10_3, 0, none⟩)), (54, .bool false), (58, .bool fresh)] ⟨by kernel_rfl, by kernel_rfl, by kernel_rfl, by kernel_rfl, by kernel_rfl, by kernel_rfl, by kernel_rfl, by kernel_rfl, by kernel_rfl, by kernel_rfl, by kernel_rfl, by kernel_rfl, by kernel_rfl, by kernel_rfl, by kernel_rfl, by kernel_rfl, by kernel_rfl, by kernel_rfl, trivial⟩ ?_
                  refine at_round_normal ?_
                  exact at_join_mk [(0, .int .i64 y1_1), (1, .int .i64 y1_3), (2, .int .i64 y1_5), (3, .int .i64 (wr ((3 : Int) + y1_7))), (4, .slice a2_3 (List.length l2_3) c2_3), (5, .slice a2_7 (List.length l2_7) c2_7), (7, .bool dirty), (16, .bool false), (17, .pointer (some ⟨b3_0_0, 0, none⟩)), (19, .pointer (some ⟨b6_3, 0, none⟩))] ((CacheA b3_0_0 y8_7.2.2) :: (ImmI a6_2_00 y6_2.data) :: (Asn.own b6_3 (.cells #[.int .i64 y6_2.kind, .int .i64 y6_2.line, .int .i64 y6_2.id, .int .i64 y6_2.step, .int .i64 y6_2.state, .int .i64 y6_2.head, .slice a6_2_00 (List.length y6_2.data) c6_2_00, .int .i64 y6_2.next, .int .i64 y6_2.told] 35 (0, 0))) :: (RCacheA b3_0_1 y3_0.2) :: (IntsA a2_7 c2_7 l2_7) :: (IntsA a2_3 c2_3 l2_3) :: Γ) ⟨by kernel_rfl, by kernel_rfl, by kernel_rfl, by kernel_rfl, by kernel_rfl, by kernel_rfl, by kernel_rfl, by kernel_rfl, by kernel_rfl, by kernel_rfl, trivial⟩ (fun w hw => (Sat.less (.take (.there (.there (.there (.there .here)))) (.take (.there (.there (.there (.there (.there (.there .here)))))) (.take (.there (.there (.there (.there (.there (.there .here)))))) (.take (.there (.there (.there (.there (.there (.there .here)))))) (.take (.there (.there (.there (.there (.there (.there .here)))))) (.take (.there (.there (.there (.there (.there (.there (.there .here))))))) (.drop .here (.drop .here (.drop .here (.drop .here (.drop .here (.drop .here (.drop .here (.drop .here .refl)))))))))))))) hw)) ⟨false, H, rfl, rfl⟩
              · replace H := bifF H h6
                refine s_pure 99 (.bool false) (by kernel_rfl) (by kernel_rfl) (run_eq (v := .bool (y11_18)) (fun _ => by kernel_rfl) (congrArg Value.bool h6)) ?_
                refine s_pass 100 (by kernel_rfl) (by kernel_rfl) ?_
                refine s_pass 101 (by kernel_rfl) (by kernel_rfl) ?_
                refine s_pass 102 (by kernel_rfl) (by kernel_rfl) ?_
                refine s_pure 103 (.bool false) (by kernel_rfl) (by kernel_rfl) (fun _ => by kernel_rfl) ?_
                refine s_pure 104 (.bool false) (by kernel_rfl) (by kernel_rfl) (fun _ => by kernel_rfl) ?_
                refine s_pass 105 (by kernel_rfl) (by kernel_rfl) ?_
                refine s_pass 106 (by kernel_rfl) (by kernel_rfl) ?_
                refine s_pass 107 (by kernel_rfl) (by kernel_rfl) ?_
                refine s_pure 108 (.bool false) (by kernel_rfl) (by kernel_rfl) (fun _ => by kernel_rfl) ?_
                refine s_pure 109 (.bool false) (by kernel_rfl) (by kernel_rfl) (fun _ => by kernel_rfl) ?_
                refine s_pass 110 (by kernel_rfl) (by kernel_rfl) ?_
                refine s_pass 111 (by kernel_rfl) (by kernel_rfl) ?_
                refine s_pass 112 (by kernel_rfl) (by kernel_rfl) ?_
                refine s_pass 113 (by kernel_rfl) (by kernel_rfl) ?_
                refine s_pure 114 (.bool false) (by kernel_rfl) (by kernel_rfl) (fun _ => by kernel_rfl) ?_
                refine s_pure 115 (.bool false) (by kernel_rfl) (by kernel_rfl) (fun _ => by kernel_rfl) ?_
                refine s_pass 116 (by kernel_rfl) (by kernel_rfl) ?_
                refine s_pass 117 (by kernel_rfl) (by kernel_rfl) ?_
                refine s_pass 118 (by kernel_rfl) (by kernel_rfl) ?_
                refine s_pure 119 (.bool false) (by kernel_rfl) (by kernel_rfl) (fun _ => by kernel_rfl) ?_
                refine s_pure 120 (.bool false) (by kernel_rfl) (by kernel_rfl) (fun _ => by kernel_rfl) ?_
                refine s_pass 121 (by kernel_rfl) (by kernel_rfl) ?_
                refine s_pass 122 (by kernel_rfl) (by kernel_rfl) ?_
                refine s_pass 123 (by kernel_rfl) (by kernel_rfl) ?_
                refine s_pass 124 (by kernel_rfl) (by kernel_rfl) ?_
                refine s_pure 125 (.bool false) (by kernel_rfl) (by kernel_rfl) (fun _ => by kernel_rfl) ?_
                refine s_pure 126 (.bool false) (by kernel_rfl) (by kernel_rfl) (fun _ => by kernel_rfl) ?_
                refine s_pass 127 (by kernel_rfl) (by kernel_rfl) ?_
                refine s_pure 128 (.bool false) (by kernel_rfl) (by kernel_rfl) (fun _ => by kernel_rfl) ?_
                refine s_pure 16 (.bool false) (by kernel_rfl) (by kernel_rfl) (fun _ => by kernel_rfl) ?_
                refine ops_end ?_
                refine At.env [(0, .int .i64 y1_1), (1, .int .i64 y1_3), (2, .int .i64 y1_5), (3, .int .i64 (wr ((3 : Int) + y1_7))), (4, .slice a2_3 (List.length l2_3) c2_3), (5, .slice a2_7 (List.length l2_7) c2_7), (6, .bool fresh), (7, .bool dirty), (16, .bool false), (17, .pointer (some ⟨b3_0_0, 0, none⟩)), (19, .pointer (some ⟨b6_3, 0, none⟩)), (20, .pointer (some ⟨b8_11, 0, none⟩)), (21, .bool y8_7.2.1), (22, .pointer (some ⟨b9_6, 0, none⟩)), (23, .bool y9_2.2), (24, .pointer (some ⟨b10_3, 0, none⟩)), (54, .bool false), (58, .bool fresh)] ⟨by kernel_rfl, by kernel_rfl, by kernel_rfl, by kernel_rfl, by kernel_rfl, by kernel_rfl, by kernel_rfl, by kernel_rfl, by kernel_rfl, by kernel_rfl, by kernel_rfl, by kernel_rfl, by kernel_rfl, by kernel_rfl, by kernel_rfl, by kernel_rfl, by kernel_rfl, by kernel_rfl, trivial⟩ ?_
                refine at_round_normal ?_
                exact at_join_mk [(0, .int .i64 y1_1), (1, .int .i64 y1_3), (2, .int .i64 y1_5), (3, .int .i64 (wr ((3 : Int) + y1_7))), (4, .slice a2_3 (List.length l2_3) c2_3), (5, .slice a2_7 (List.length l2_7) c2_7), (7, .bool dirty), (16, .bool false), (17, .pointer (some ⟨b3_0_0, 0, none⟩)), (19, .pointer (some ⟨b6_3, 0, none⟩))] ((CacheA b3_0_0 y8_7.2.2) :: (ImmI a6_2_00 y6_2.data) :: (Asn.own b6_3 (.cells #[.int .i64 y6_2.kind, .int .i64 y6_2.line, .int .i64 y6_2.id, .int .i64 y6_2.step, .int .i64 y6_2.state, .int .i64 y6_2.head, .slice a6_2_00 (List.length y6_2.data) c6_2_00, .int .i64 y6_2.next, .int .i64 y6_2.told] 35 (0, 0))) :: (RCacheA b3_0_1 y3_0.2) :: (IntsA a2_7 c2_7 l2_7) :: (IntsA a2_3 c2_3 l2_3) :: Γ) ⟨by kernel_rfl, by kernel_rfl, by kernel_rfl, by kernel_rfl, by kernel_rfl, by kernel_rfl, by kernel_rfl, by kernel_rfl, by kernel_rfl, by kernel_rfl, trivial⟩ (fun w hw => (Sat.less (.take (.there (.there (.there (.there .here)))) (.take (.there (.there (.there (.there (.there (.there .here)))))) (.take (.there (.there (.there (.there (.there (.there .here)))))) (.take (.there (.there (.there (.there (.there (.there .here)))))) (.take (.there (.there (.there (.there (.there (.there .here)))))) (.take (.there (.there (.there (.there (.there (.there (.there .here))))))) (.drop .here (.drop .here (.drop .here (.drop .here (.drop .here (.drop .here (.drop .here (.drop .here .refl)))))))))))))) hw)) ⟨false, H, rfl, rfl⟩
            · replace H := bifF H h5
              refine s_pure 93 (.bool false) (by kernel_rfl) (by kernel_rfl) (run_eq (v := .bool (!y9_2.1.dirty)) (fun _ => by kernel_rfl) (congrArg Value.bool h5)) ?_
              refine s_pass 94 (by kernel_rfl) (by kernel_rfl) ?_
              refine s_pass 95 (by kernel_rfl) (by kernel_rfl) ?_
              refine s_pass 96 (by kernel_rfl) (by kernel_rfl) ?_
              refine s_pass 97 (by kernel_rfl) (by kernel_rfl) ?_
              refine s_pure 98 (.bool false) (by kernel_rfl) (by kernel_rfl) (fun _ => by kernel_rfl) ?_
              refine s_pure 99 (.bool false) (by kernel_rfl) (by kernel_rfl) (fun _ => by kernel_rfl) ?_
              refine s_pass 100 (by kernel_rfl) (by kernel_rfl) ?_
              refine s_pass 101 (by kernel_rfl) (by kernel_rfl) ?_
              refine s_pass 102 (by kernel_rfl) (by kernel_rfl) ?_
              refine s_pure 103 (.bool false) (by kernel_rfl) (by kernel_rfl) (fun _ => by kernel_rfl) ?_
              refine s_pure 104 (.bool false) (by kernel_rfl) (by kernel_rfl) (fun _ => by kernel_rfl) ?_
              refine s_pass 105 (by kernel_rfl) (by kernel_rfl) ?_
              refine s_pass 106 (by kernel_rfl) (by kernel_rfl) ?_
              refine s_pass 107 (by kernel_rfl) (by kernel_rfl) ?_
              refine s_pure 108 (.bool false) (by kernel_rfl) (by kernel_rfl) (fun _ => by kernel_rfl) ?_
              refine s_pure 109 (.bool false) (by kernel_rfl) (by kernel_rfl) (fun _ => by kernel_rfl) ?_
              refine s_pass 110 (by kernel_rfl) (by kernel_rfl) ?_
              refine s_pass 111 (by kernel_rfl) (by kernel_rfl) ?_
              refine s_pass 112 (by kernel_rfl) (by kernel_rfl) ?_
              refine s_pass 113 (by kernel_rfl) (by kernel_rfl) ?_
              refine s_pure 114 (.bool false) (by kernel_rfl) (by kernel_rfl) (fun _ => by kernel_rfl) ?_
              refine s_pure 115 (.bool false) (by kernel_rfl) (by kernel_rfl) (fun _ => by kernel_rfl) ?_
              refine s_pass 116 (by kernel_rfl) (by kernel_rfl) ?_
              refine s_pass 117 (by kernel_rfl) (by kernel_rfl) ?_
              refine s_pass 118 (by kernel_rfl) (by kernel_rfl) ?_
              refine s_pure 119 (.bool false) (by kernel_rfl) (by kernel_rfl) (fun _ => by kernel_rfl) ?_
              refine s_pure 120 (.bool false) (by kernel_rfl) (by kernel_rfl) (fun _ => by kernel_rfl) ?_
              refine s_pass 121 (by kernel_rfl) (by kernel_rfl) ?_
              refine s_pass 122 (by kernel_rfl) (by kernel_rfl) ?_
              refine s_pass 123 (by kernel_rfl) (by kernel_rfl) ?_
              refine s_pass 124 (by kernel_rfl) (by kernel_rfl) ?_
              refine s_pure 125 (.bool false) (by kernel_rfl) (by kernel_rfl) (fun _ => by kernel_rfl) ?_
              refine s_pure 126 (.bool false) (by kernel_rfl) (by kernel_rfl) (fun _ => by kernel_rfl) ?_
              refine s_pass 127 (by kernel_rfl) (by kernel_rfl) ?_
              refine s_pure 128 (.bool false) (by kernel_rfl) (by kernel_rfl) (fun _ => by kernel_rfl) ?_
              refine s_pure 16 (.bool false) (by kernel_rfl) (by kernel_rfl) (fun _ => by kernel_rfl) ?_
              refine ops_end ?_
              refine At.env [(0, .int .i64 y1_1), (1, .int .i64 y1_3), (2, .int .i64 y1_5), (3, .int .i64 (wr ((3 : Int) + y1_7))), (4, .slice a2_3 (List.length l2_3) c2_3), (5, .slice a2_7 (List.length l2_7) c2_7), (6, .bool fresh), (7, .bool dirty), (16, .bool false), (17, .pointer (some ⟨b3_0_0, 0, none⟩)), (19, .pointer (some ⟨b6_3, 0, none⟩)), (20, .pointer (some ⟨b8_11, 0, none⟩)), (21, .bool y8_7.2.1), (22, .pointer (some ⟨b9_6, 0, none⟩)), (23, .bool y9_2.2), (24, .pointer (some ⟨b10_3, 0, none⟩)), (54, .bool false), (58, .bool fresh)] ⟨by kernel_rfl, by kernel_rfl, by kernel_rfl, by kernel_rfl, by kernel_rfl, by kernel_rfl, by kernel_rfl, by kernel_rfl, by kernel_rfl, by kernel_rfl, by kernel_rfl, by kernel_rfl, by kernel_rfl, by kernel_rfl, by kernel_rfl, by kernel_rfl, by kernel_rfl, by kernel_rfl, trivial⟩ ?_
              refine at_round_normal ?_
              exact at_join_mk [(0, .int .i64 y1_1), (1, .int .i64 y1_3), (2, .int .i64 y1_5), (3, .int .i64 (wr ((3 : Int) + y1_7))), (4, .slice a2_3 (List.length l2_3) c2_3), (5, .slice a2_7 (List.length l2_7) c2_7), (7, .bool dirty), (16, .bool false), (17, .pointer (some ⟨b3_0_0, 0, none⟩)), (19, .pointer (some ⟨b6_3, 0, none⟩))] ((CacheA b3_0_0 y8_7.2.2) :: (ImmI a6_2_00 y6_2.data) :: (Asn.own b6_3 (.cells #[.int .i64 y6_2.kind, .int .i64 y6_2.line, .int .i64 y6_2.id, .int .i64 y6_2.step, .int .i64 y6_2.state, .int .i64 y6_2.head, .slice a6_2_00 (List.length y6_2.data) c6_2_00, .int .i64 y6_2.next, .int .i64 y6_2.told] 35 (0, 0))) :: (RCacheA b3_0_1 y3_0.2) :: (IntsA a2_7 c2_7 l2_7) :: (IntsA a2_3 c2_3 l2_3) :: Γ) ⟨by kernel_rfl, by kernel_rfl, by kernel_rfl, by kernel_rfl, by kernel_rfl, by kernel_rfl, by kernel_rfl, by kernel_rfl, by kernel_rfl, by kernel_rfl, trivial⟩ (fun w hw => (Sat.less (.take (.there (.there (.there (.there .here)))) (.take (.there (.there (.there (.there (.there (.there .here)))))) (.take (.there (.there (.there (.there (.there (.there .here)))))) (.take (.there (.there (.there (.there (.there (.there .here)))))) (.take (.there (.there (.there (.there (.there (.there .here)))))) (.take (.there (.there (.there (.there (.there (.there (.there .here))))))) (.drop .here (.drop .here (.drop .here (.drop .here (.drop .here (.drop .here (.drop .here (.drop .here .refl)))))))))))))) hw)) ⟨false, H, rfl, rfl⟩
          · replace H := bifF H h4
            refine s_pure 88 (.bool false) (by kernel_rfl) (by kernel_rfl) (run_eq (v := .bool (y11_7)) (fun _ => by kernel_rfl) (congrArg Value.bool h4)) ?_
            refine s_pass 89 (by kernel_rfl) (by kernel_rfl) ?_
            refine s_pass 90 (by kernel_rfl) (by kernel_rfl) ?_
            refine s_pass 91 (by kernel_rfl) (by kernel_rfl) ?_
            refine s_pure 92 (.bool false) (by kernel_rfl) (by kernel_rfl) (fun _ => by kernel_rfl) ?_
            refine s_pure 93 (.bool false) (by kernel_rfl) (by kernel_rfl) (fun _ => by kernel_rfl) ?_
            refine s_pass 94 (by kernel_rfl) (by kernel_rfl) ?_
            refine s_pass 95 (by kernel_rfl) (by kernel_rfl) ?_
            refine s_pass 96 (by kernel_rfl) (by kernel_rfl) ?_
            refine s_pass 97 (by kernel_rfl) (by kernel_rfl) ?_
            refine s_pure 98 (.bool false) (by kernel_rfl) (by kernel_rfl) (fun _ => by kernel_rfl) ?_
            refine s_pure 99 (.bool false) (by kernel_rfl) (by kernel_rfl) (fun _ => by kernel_rfl) ?_
            refine s_pass 100 (by kernel_rfl) (by kernel_rfl) ?_
            refine s_pass 101 (by kernel_rfl) (by kernel_rfl) ?_
            refine s_pass 102 (by kernel_rfl) (by kernel_rfl) ?_
            refine s_pure 103 (.bool false) (by kernel_rfl) (by kernel_rfl) (fun _ => by kernel_rfl) ?_
            refine s_pure 104 (.bool false) (by kernel_rfl) (by kernel_rfl) (fun _ => by kernel_rfl) ?_
            refine s_pass 105 (by kernel_rfl) (by kernel_rfl) ?_
            refine s_pass 106 (by kernel_rfl) (by kernel_rfl) ?_
            refine s_pass 107 (by kernel_rfl) (by kernel_rfl) ?_
            refine s_pure 108 (.bool false) (by kernel_rfl) (by kernel_rfl) (fun _ => by kernel_rfl) ?_
            refine s_pure 109 (.bool false) (by kernel_rfl) (by kernel_rfl) (fun _ => by kernel_rfl) ?_
            refine s_pass 110 (by kernel_rfl) (by kernel_rfl) ?_
            refine s_pass 111 (by kernel_rfl) (by kernel_rfl) ?_
            refine s_pass 112 (by kernel_rfl) (by kernel_rfl) ?_
            refine s_pass 113 (by kernel_rfl) (by kernel_rfl) ?_
            refine s_pure 114 (.bool false) (by kernel_rfl) (by kernel_rfl) (fun _ => by kernel_rfl) ?_
            refine s_pure 115 (.bool false) (by kernel_rfl) (by kernel_rfl) (fun _ => by kernel_rfl) ?_
            refine s_pass 116 (by kernel_rfl) (by kernel_rfl) ?_
            refine s_pass 117 (by kernel_rfl) (by kernel_rfl) ?_
            refine s_pass 118 (by kernel_rfl) (by kernel_rfl) ?_
            refine s_pure 119 (.bool false) (by kernel_rfl) (by kernel_rfl) (fun _ => by kernel_rfl) ?_
            refine s_pure 120 (.bool false) (by kernel_rfl) (by kernel_rfl) (fun _ => by kernel_rfl) ?_
            refine s_pass 121 (by kernel_rfl) (by kernel_rfl) ?_
            refine s_pass 122 (by kernel_rfl) (by kernel_rfl) ?_
            refine s_pass 123 (by kernel_rfl) (by kernel_rfl) ?_
            refine s_pass 124 (by kernel_rfl) (by kernel_rfl) ?_
            refine s_pure 125 (.bool false) (by kernel_rfl) (by kernel_rfl) (fun _ => by kernel_rfl) ?_
            refine s_pure 126 (.bool false) (by kernel_rfl) (by kernel_rfl) (fun _ => by kernel_rfl) ?_
            refine s_pass 127 (by kernel_rfl) (by kernel_rfl) ?_
            refine s_pure 128 (.bool false) (by kernel_rfl) (by kernel_rfl) (fun _ => by kernel_rfl) ?_
            refine s_pure 16 (.bool false) (by kernel_rfl) (by kernel_rfl) (fun _ => by kernel_rfl) ?_
            refine ops_end ?_
            refine At.env [(0, .int .i64 y1_1), (1, .int .i64 y1_3), (2, .int .i64 y1_5), (3, .int .i64 (wr ((3 : Int) + y1_7))), (4, .slice a2_3 (List.length l2_3) c2_3), (5, .slice a2_7 (List.length l2_7) c2_7), (6, .bool fresh), (7, .bool dirty), (16, .bool false), (17, .pointer (some ⟨b3_0_0, 0, none⟩)), (19, .pointer (some ⟨b6_3, 0, none⟩)), (20, .pointer (some ⟨b8_11, 0, none⟩)), (21, .bool y8_7.2.1), (22, .pointer (some ⟨b9_6, 0, none⟩)), (23, .bool y9_2.2), (24, .pointer (some ⟨b10_3, 0, none⟩)), (54, .bool false), (58, .bool fresh)] ⟨by kernel_rfl, by kernel_rfl, by kernel_rfl, by kernel_rfl, by kernel_rfl, by kernel_rfl, by kernel_rfl, by kernel_rfl, by kernel_rfl, by kernel_rfl, by kernel_rfl, by kernel_rfl, by kernel_rfl, by kernel_rfl, by kernel_rfl, by kernel_rfl, by kernel_rfl, by kernel_rfl, trivial⟩ ?_
            refine at_round_normal ?_
            exact at_join_mk [(0, .int .i64 y1_1), (1, .int .i64 y1_3), (2, .int .i64 y1_5), (3, .int .i64 (wr ((3 : Int) + y1_7))), (4, .slice a2_3 (List.length l2_3) c2_3), (5, .slice a2_7 (List.length l2_7) c2_7), (7, .bool dirty), (16, .bool false), (17, .pointer (some ⟨b3_0_0, 0, none⟩)), (19, .pointer (some ⟨b6_3, 0, none⟩))] ((CacheA b3_0_0 y8_7.2.2) :: (ImmI a6_2_00 y6_2.data) :: (Asn.own b6_3 (.cells #[.int .i64 y6_2.kind, .int .i64 y6_2.line, .int .i64 y6_2.id, .int .i64 y6_2.step, .int .i64 y6_2.state, .int .i64 y6_2.head, .slice a6_2_00 (List.length y6_2.data) c6_2_00, .int .i64 y6_2.next, .int .i64 y6_2.told] 35 (0, 0))) :: (RCacheA b3_0_1 y3_0.2) :: (IntsA a2_7 c2_7 l2_7) :: (IntsA a2_3 c2_3 l2_3) :: Γ) ⟨by kernel_rfl, by kernel_rfl, by kernel_rfl, by kernel_rfl, by kernel_rfl, by kernel_rfl, by kernel_rfl, by kernel_rfl, by kernel_rfl, by kernel_rfl, trivial⟩ (fun w hw => (Sat.less (.take (.there (.there (.there (.there .here)))) (.take (.there (.there (.there (.there (.there (.there .here)))))) (.take (.there (.there (.there (.there (.there (.there .here)))))) (.take (.there (.there (.there (.there (.there (.there .here)))))) (.take (.there (.there (.there (.there (.there (.there .here)))))) (.take (.there (.there (.there (.there (.there (.there (.there .here))))))) (.drop .here (.drop .here (.drop .here (.drop .here (.drop .here (.drop .here (.drop .here (.drop .here .refl)))))))))))))) hw)) ⟨false, H, rfl, rfl⟩
        · replace H := bifF H h3
          refine s_pure 83 (.bool false) (by kernel_rfl) (by kernel_rfl) (run_eq (v := .bool (y9_2.2)) (fun _ => by kernel_rfl) (congrArg Value.bool h3)) ?_
          refine s_pass 84 (by kernel_rfl) (by kernel_rfl) ?_
          refine s_pass 85 (by kernel_rfl) (by kernel_rfl) ?_
          refine s_pass 86 (by kernel_rfl) (by kernel_rfl) ?_
          refine s_pure 87 (.bool false) (by kernel_rfl) (by kernel_rfl) (fun _ => by kernel_rfl) ?_
          refine s_pure 88 (.bool false) (by kernel_rfl) (by kernel_rfl) (fun _ => by kernel_rfl) ?_
          refine s_pass 89 (by kernel_rfl) (by kernel_rfl) ?_
          refine s_pass 90 (by kernel_rfl) (by kernel_rfl) ?_
          refine s_pass 91 (by kernel_rfl) (by kernel_rfl) ?_
          refine s_pure 92 (.bool false) (by kernel_rfl) (by kernel_rfl) (fun _ => by kernel_rfl) ?_
          refine s_pure 93 (.bool false) (by kernel_rfl) (by kernel_rfl) (fun _ => by kernel_rfl) ?_
          refine s_pass 94 (by kernel_rfl) (by kernel_rfl) ?_
          refine s_pass 95 (by kernel_rfl) (by kernel_rfl) ?_
          refine s_pass 96 (by kernel_rfl) (by kernel_rfl) ?_
          refine s_pass 97 (by kernel_rfl) (by kernel_rfl) ?_
          refine s_pure 98 (.bool false) (by kernel_rfl) (by kernel_rfl) (fun _ => by kernel_rfl) ?_
          refine s_pure 99 (.bool false) (by kernel_rfl) (by kernel_rfl) (fun _ => by kernel_rfl) ?_
          refine s_pass 100 (by kernel_rfl) (by kernel_rfl) ?_
          refine s_pass 101 (by kernel_rfl) (by kernel_rfl) ?_
          refine s_pass 102 (by kernel_rfl) (by kernel_rfl) ?_
          refine s_pure 103 (.bool false) (by kernel_rfl) (by kernel_rfl) (fun _ => by kernel_rfl) ?_
          refine s_pure 104 (.bool false) (by kernel_rfl) (by kernel_rfl) (fun _ => by kernel_rfl) ?_
          refine s_pass 105 (by kernel_rfl) (by kernel_rfl) ?_
          refine s_pass 106 (by kernel_rfl) (by kernel_rfl) ?_
          refine s_pass 107 (by kernel_rfl) (by kernel_rfl) ?_
          refine s_pure 108 (.bool false) (by kernel_rfl) (by kernel_rfl) (fun _ => by kernel_rfl) ?_
          refine s_pure 109 (.bool false) (by kernel_rfl) (by kernel_rfl) (fun _ => by kernel_rfl) ?_
          refine s_pass 110 (by kernel_rfl) (by kernel_rfl) ?_
          refine s_pass 111 (by kernel_rfl) (by kernel_rfl) ?_
          refine s_pass 112 (by kernel_rfl) (by kernel_rfl) ?_
          refine s_pass 113 (by kernel_rfl) (by kernel_rfl) ?_
          refine s_pure 114 (.bool false) (by kernel_rfl) (by kernel_rfl) (fun _ => by kernel_rfl) ?_
          refine s_pure 115 (.bool false) (by kernel_rfl) (by kernel_rfl) (fun _ => by kernel_rfl) ?_
          refine s_pass 116 (by kernel_rfl) (by kernel_rfl) ?_
          refine s_pass 117 (by kernel_rfl) (by kernel_rfl) ?_
          refine s_pass 118 (by kernel_rfl) (by kernel_rfl) ?_
          refine s_pure 119 (.bool false) (by kernel_rfl) (by kernel_rfl) (fun _ => by kernel_rfl) ?_
          refine s_pure 120 (.bool false) (by kernel_rfl) (by kernel_rfl) (fun _ => by kernel_rfl) ?_
          refine s_pass 121 (by kernel_rfl) (by kernel_rfl) ?_
          refine s_pass 122 (by kernel_rfl) (by kernel_rfl) ?_
          refine s_pass 123 (by kernel_rfl) (by kernel_rfl) ?_
          refine s_pass 124 (by kernel_rfl) (by kernel_rfl) ?_
          refine s_pure 125 (.bool false) (by kernel_rfl) (by kernel_rfl) (fun _ => by kernel_rfl) ?_
          refine s_pure 126 (.bool false) (by kernel_rfl) (by kernel_rfl) (fun _ => by kernel_rfl) ?_
          refine s_pass 127 (by kernel_rfl) (by kernel_rfl) ?_
          refine s_pure 128 (.bool false) (by kernel_rfl) (by kernel_rfl) (fun _ => by kernel_rfl) ?_
          refine s_pure 16 (.bool false) (by kernel_rfl) (by kernel_rfl) (fun _ => by kernel_rfl) ?_
          refine ops_end ?_
          refine At.env [(0, .int .i64 y1_1), (1, .int .i64 y1_3), (2, .int .i64 y1_5), (3, .int .i64 (wr ((3 : Int) + y1_7))), (4, .slice a2_3 (List.length l2_3) c2_3), (5, .slice a2_7 (List.length l2_7) c2_7), (6, .bool fresh), (7, .bool dirty), (16, .bool false), (17, .pointer (some ⟨b3_0_0, 0, none⟩)), (19, .pointer (some ⟨b6_3, 0, none⟩)), (20, .pointer (some ⟨b8_11, 0, none⟩)), (21, .bool y8_7.2.1), (22, .pointer (some ⟨b9_6, 0, none⟩)), (23, .bool y9_2.2), (24, .pointer (some ⟨b10_3, 0, none⟩)), (54, .bool false), (58, .bool fresh)] ⟨by kernel_rfl, by kernel_rfl, by kernel_rfl, by kernel_rfl, by kernel_rfl, by kernel_rfl, by kernel_rfl, by kernel_rfl, by kernel_rfl, by kernel_rfl, by kernel_rfl, by kernel_rfl, by kernel_rfl, by kernel_rfl, by kernel_rfl, by kernel_rfl, by kernel_rfl, by kernel_rfl, trivial⟩ ?_
          refine at_round_normal ?_
          exact at_join_mk [(0, .int .i64 y1_1), (1, .int .i64 y1_3), (2, .int .i64 y1_5), (3, .int .i64 (wr ((3 : Int) + y1_7))), (4, .slice a2_3 (List.length l2_3) c2_3), (5, .slice a2_7 (List.length l2_7) c2_7), (7, .bool dirty), (16, .bool false), (17, .pointer (some ⟨b3_0_0, 0, none⟩)), (19, .pointer (some ⟨b6_3, 0, none⟩))] ((CacheA b3_0_0 y8_7.2.2) :: (ImmI a6_2_00 y6_2.data) :: (Asn.own b6_3 (.cells #[.int .i64 y6_2.kind, .int .i64 y6_2.line, .int .i64 y6_2.id, .int .i64 y6_2.step, .int .i64 y6_2.state, .int .i64 y6_2.head, .slice a6_2_00 (List.length y6_2.data) c6_2_00, .int .i64 y6_2.next, .int .i64 y6_2.told] 35 (0, 0))) :: (RCacheA b3_0_1 y3_0.2) :: (IntsA a2_7 c2_7 l2_7) :: (IntsA a2_3 c2_3 l2_3) :: Γ) ⟨by kernel_rfl, by kernel_rfl, by kernel_rfl, by kernel_rfl, by kernel_rfl, by kernel_rfl, by kernel_rfl, by kernel_rfl, by kernel_rfl, by kernel_rfl, trivial⟩ (fun w hw => (Sat.less (.take (.there (.there (.there (.there .here)))) (.take (.there (.there (.there (.there (.there (.there .here)))))) (.take (.there (.there (.there (.there (.there (.there .here)))))) (.take (.there (.there (.there (.there (.there (.there .here)))))) (.take (.there (.there (.there (.there (.there (.there .here)))))) (.take (.there (.there (.there (.there (.there (.there (.there .here))))))) (.drop .here (.drop .here (.drop .here (.drop .here (.drop .here (.drop .here (.drop .here (.drop .here .refl)))))))))))))) hw)) ⟨false, H, rfl, rfl⟩
      · replace H := bifF H h2
        refine s_pure 80 (.bool false) (by kernel_rfl) (by kernel_rfl) (run_eq (v := .bool (y8_7.2.1)) (fun _ => by kernel_rfl) (congrArg Value.bool h2)) ?_
        refine s_pass 81 (by kernel_rfl) (by kernel_rfl) ?_
        refine s_pure 82 (.bool false) (by kernel_rfl) (by kernel_rfl) (fun _ => by kernel_rfl) ?_
        refine s_pure 83 (.bool false) (by kernel_rfl) (by kernel_rfl) (fun _ => by kernel_rfl) ?_
        refine s_pass 84 (by kernel_rfl) (by kernel_rfl) ?_
        refine s_pass 85 (by kernel_rfl) (by kernel_rfl) ?_
        refine s_pass 86 (by kernel_rfl) (by kernel_rfl) ?_
        refine s_pure 87 (.bool false) (by kernel_rfl) (by kernel_rfl) (fun _ => by kernel_rfl) ?_
        refine s_pure 88 (.bool false) (by kernel_rfl) (by kernel_rfl) (fun _ => by kernel_rfl) ?_
        refine s_pass 89 (by kernel_rfl) (by kernel_rfl) ?_
        refine s_pass 90 (by kernel_rfl) (by kernel_rfl) ?_
        refine s_pass 91 (by kernel_rfl) (by kernel_rfl) ?_
        refine s_pure 92 (.bool false) (by kernel_rfl) (by kernel_rfl) (fun _ => by kernel_rfl) ?_
        refine s_pure 93 (.bool false) (by kernel_rfl) (by kernel_rfl) (fun _ => by kernel_rfl) ?_
        refine s_pass 94 (by kernel_rfl) (by kernel_rfl) ?_
        refine s_pass 95 (by kernel_rfl) (by kernel_rfl) ?_
        refine s_pass 96 (by kernel_rfl) (by kernel_rfl) ?_
        refine s_pass 97 (by kernel_rfl) (by kernel_rfl) ?_
        refine s_pure 98 (.bool false) (by kernel_rfl) (by kernel_rfl) (fun _ => by kernel_rfl) ?_
        refine s_pure 99 (.bool false) (by kernel_rfl) (by kernel_rfl) (fun _ => by kernel_rfl) ?_
        refine s_pass 100 (by kernel_rfl) (by kernel_rfl) ?_
        refine s_pass 101 (by kernel_rfl) (by kernel_rfl) ?_
        refine s_pass 102 (by kernel_rfl) (by kernel_rfl) ?_
        refine s_pure 103 (.bool false) (by kernel_rfl) (by kernel_rfl) (fun _ => by kernel_rfl) ?_
        refine s_pure 104 (.bool false) (by kernel_rfl) (by kernel_rfl) (fun _ => by kernel_rfl) ?_
        refine s_pass 105 (by kernel_rfl) (by kernel_rfl) ?_
        refine s_pass 106 (by kernel_rfl) (by kernel_rfl) ?_
        refine s_pass 107 (by kernel_rfl) (by kernel_rfl) ?_
        refine s_pure 108 (.bool false) (by kernel_rfl) (by kernel_rfl) (fun _ => by kernel_rfl) ?_
        refine s_pure 109 (.bool false) (by kernel_rfl) (by kernel_rfl) (fun _ => by kernel_rfl) ?_
        refine s_pass 110 (by kernel_rfl) (by kernel_rfl) ?_
        refine s_pass 111 (by kernel_rfl) (by kernel_rfl) ?_
        refine s_pass 112 (by kernel_rfl) (by kernel_rfl) ?_
        refine s_pass 113 (by kernel_rfl) (by kernel_rfl) ?_
        refine s_pure 114 (.bool false) (by kernel_rfl) (by kernel_rfl) (fun _ => by kernel_rfl) ?_
        refine s_pure 115 (.bool false) (by kernel_rfl) (by kernel_rfl) (fun _ => by kernel_rfl) ?_
        refine s_pass 116 (by kernel_rfl) (by kernel_rfl) ?_
        refine s_pass 117 (by kernel_rfl) (by kernel_rfl) ?_
        refine s_pass 118 (by kernel_rfl) (by kernel_rfl) ?_
        refine s_pure 119 (.bool false) (by kernel_rfl) (by kernel_rfl) (fun _ => by kernel_rfl) ?_
        refine s_pure 120 (.bool false) (by kernel_rfl) (by kernel_rfl) (fun _ => by kernel_rfl) ?_
        refine s_pass 121 (by kernel_rfl) (by kernel_rfl) ?_
        refine s_pass 122 (by kernel_rfl) (by kernel_rfl) ?_
        refine s_pass 123 (by kernel_rfl) (by kernel_rfl) ?_
        refine s_pass 124 (by kernel_rfl) (by kernel_rfl) ?_
        refine s_pure 125 (.bool false) (by kernel_rfl) (by kernel_rfl) (fun _ => by kernel_rfl) ?_
        refine s_pure 126 (.bool false) (by kernel_rfl) (by kernel_rfl) (fun _ => by kernel_rfl) ?_
        refine s_pass 127 (by kernel_rfl) (by kernel_rfl) ?_
        refine s_pure 128 (.bool false) (by kernel_rfl) (by kernel_rfl) (fun _ => by kernel_rfl) ?_
        refine s_pure 16 (.bool false) (by kernel_rfl) (by kernel_rfl) (fun _ => by kernel_rfl) ?_
        refine ops_end ?_
        refine At.env [(0, .int .i64 y1_1), (1, .int .i64 y1_3), (2, .int .i64 y1_5), (3, .int .i64 (wr ((3 : Int) + y1_7))), (4, .slice a2_3 (List.length l2_3) c2_3), (5, .slice a2_7 (List.length l2_7) c2_7), (6, .bool fresh), (7, .bool dirty), (16, .bool false), (17, .pointer (some ⟨b3_0_0, 0, none⟩)), (19, .pointer (some ⟨b6_3, 0, none⟩)), (20, .pointer (some ⟨b8_11, 0, none⟩)), (21, .bool y8_7.2.1), (22, .pointer (some ⟨b9_6, 0, none⟩)), (23, .bool y9_2.2), (24, .pointer (some ⟨b10_3, 0, none⟩)), (54, .bool false), (58, .bool fresh)] ⟨by kernel_rfl, by kernel_rfl, by kernel_rfl, by kernel_rfl, by kernel_rfl, by kernel_rfl, by kernel_rfl, by kernel_rfl, by kernel_rfl, by kernel_rfl, by kernel_rfl, by kernel_rfl, by kernel_rfl, by kernel_rfl, by kernel_rfl, by kernel_rfl, by kernel_rfl, by kernel_rfl, trivial⟩ ?_
        refine at_round_normal ?_
        exact at_join_mk [(0, .int .i64 y1_1), (1, .int .i64 y1_3), (2, .int .i64 y1_5), (3, .int .i64 (wr ((3 : Int) + y1_7))), (4, .slice a2_3 (List.length l2_3) c2_3), (5, .slice a2_7 (List.length l2_7) c2_7), (7, .bool dirty), (16, .bool false), (17, .pointer (some ⟨b3_0_0, 0, none⟩)), (19, .pointer (some ⟨b6_3, 0, none⟩))] ((CacheA b3_0_0 y8_7.2.2) :: (ImmI a6_2_00 y6_2.data) :: (Asn.own b6_3 (.cells #[.int .i64 y6_2.kind, .int .i64 y6_2.line, .int .i64 y6_2.id, .int .i64 y6_2.step, .int .i64 y6_2.state, .int .i64 y6_2.head, .slice a6_2_00 (List.length y6_2.data) c6_2_00, .int .i64 y6_2.next, .int .i64 y6_2.told] 35 (0, 0))) :: (RCacheA b3_0_1 y3_0.2) :: (IntsA a2_7 c2_7 l2_7) :: (IntsA a2_3 c2_3 l2_3) :: Γ) ⟨by kernel_rfl, by kernel_rfl, by kernel_rfl, by kernel_rfl, by kernel_rfl, by kernel_rfl, by kernel_rfl, by kernel_rfl, by kernel_rfl, by kernel_rfl, trivial⟩ (fun w hw => (Sat.less (.take (.there (.there (.there (.there .here)))) (.take (.there (.there (.there (.there (.there (.there .here)))))) (.take (.there (.there (.there (.there (.there (.there .here)))))) (.take (.there (.there (.there (.there (.there (.there .here)))))) (.take (.there (.there (.there (.there (.there (.there .here)))))) (.take (.there (.there (.there (.there (.there (.there (.there .here))))))) (.drop .here (.drop .here (.drop .here (.drop .here (.drop .here (.drop .here (.drop .here (.drop .here .refl)))))))))))))) hw)) ⟨false, H, rfl, rfl⟩
  · replace H := bifF H h1
    refine at_false (t := fresh) (x := C5 [1, 1, 1, 1, 1, 1, 0, 1, 0]) (y := C5 [1, 1, 1, 1, 1, 1, 0, 1, 1]) (o := .tmp 58) (by kernel_rfl) (by kernel_rfl) (by kernel_rfl) h1 ?_
    refine at_skip (by kernel_rfl) ?_
    refine at_then_normal ?_
    refine at_seq (x := C5 [1, 1, 1, 1, 1, 1, 1, 0]) (y := C5 [1, 1, 1, 1, 1, 1, 1, 1]) (by kernel_rfl) ?_
    refine at_region (id := 12) 1 (by kernel_rfl) (by kernel_rfl) ?_
    refine s_pure 25 (.int .i64 (1)) (by kernel_rfl) (by kernel_rfl) (fun _ => by kernel_rfl) ?_
    refine ops_end ?_
    refine At.env [(0, .int .i64 y1_1), (1, .int .i64 y1_3), (2, .int .i64 y1_5), (3, .int .i64 (wr ((3 : Int) + y1_7))), (4, .slice a2_3 (List.length l2_3) c2_3), (5, .slice a2_7 (List.length l2_7) c2_7), (6, .bool fresh), (7, .bool dirty), (16, .bool false), (17, .pointer (some ⟨b3_0_0, 0, none⟩)), (19, .pointer (some ⟨b6_3, 0, none⟩)), (25, .int .i64 (1)), (54, .bool false), (58, .bool fresh)] ⟨by kernel_rfl, by kernel_rfl, by kernel_rfl, by kernel_rfl, by kernel_rfl, by kernel_rfl, by kernel_rfl, by kernel_rfl, by kernel_rfl, by kernel_rfl, by kernel_rfl, by kernel_rfl, by kernel_rfl, by kernel_rfl, trivial⟩ ?_
    refine at_then_normal ?_
    refine at_seq_join (x := C5 [1, 1, 1, 1, 1, 1, 1, 1, 0]) (y := C5 [1, 1, 1, 1, 1, 1, 1, 1, 1]) (fun ff ΔΔ => ∃ (e1_25 : Int), attachReadsS_j1 y6_2 y1_5 y3_0 y1_3 y1_1 y1_7 l2_3 dirty l2_7 e1_25 = some y ∧ ff = [(0, .int .i64 y1_1), (1, .int .i64 y1_3), (2, .int .i64 y1_5), (3, .int .i64 (wr ((3 : Int) + y1_7))), (4, .slice a2_3 (List.length l2_3) c2_3), (5, .slice a2_7 (List.length l2_7) c2_7), (7, .bool dirty), (16, .bool false), (17, .pointer (some ⟨b3_0_0, 0, none⟩)), (19, .pointer (some ⟨b6_3, 0, none⟩)), (25, .int .i64 e1_25)] ∧ (Asn.own b6_3 (.cells #[.int .i64 y6_2.kind, .int .i64 y6_2.line, .int .i64 y6_2.id, .int .i64 y6_2.step, .int .i64 y6_2.state, .int .i64 y6_2.head, .slice a6_2_00 (List.length y6_2.data) c6_2_00, .int .i64 y6_2.next, .int .i64 y6_2.told] 35 (0, 0))) :: (ImmI a6_2_00 y6_2.data) :: (CacheA b3_0_0 y3_0.1) :: (RCacheA b3_0_1 y3_0.2) :: (IntsA a2_7 c2_7 l2_7) :: (IntsA a2_3 c2_3 l2_3) :: Γ = ΔΔ) (by kernel_rfl) ?_ ?_
    · rintro _ _ ⟨e1_25, H, rfl, rfl⟩
      rw [attachReadsS_j1] at H
      refine at_seq (x := C5 [1, 1, 1, 1, 1, 1, 1, 1, 1, 0]) (y := C5 [1, 1, 1, 1, 1, 1, 1, 1, 1, 1]) (by kernel_rfl) ?_
      refine at_region (id := 15) 15 (by kernel_rfl) (by kernel_rfl) ?_
      refine s_load 131 (.agg #[.int .i64 y6_2.kind, .int .i64 y6_2.line, .int .i64 y6_2.id, .int .i64 y6_2.step, .int .i64 y6_2.state, .int .i64 y6_2.head, .slice a6_2_00 (List.length y6_2.data) c6_2_00, .int .i64 y6_2.next, .int .i64 y6_2.told]) (by kernel_rfl) (by kernel_rfl) (loadN (off := 0) (vs := [.int .i64 y6_2.kind, .int .i64 y6_2.line, .int .i64 y6_2.id, .int .i64 y6_2.step, .int .i64 y6_2.state, .int .i64 y6_2.head, .slice a6_2_00 (List.length y6_2.data) c6_2_00, .int .i64 y6_2.next, .int .i64 y6_2.told]) 9 (fun _ => by kernel_rfl) (holds_own .here) rfl (by exact ⟨rfl, rfl, rfl, rfl, rfl, rfl, rfl, rfl, rfl, trivial⟩)) ?_
      refine s_pure 132 (.int .i64 y1_5) (by kernel_rfl) (by kernel_rfl) (fun _ => by kernel_rfl) ?_
      refine s_pure 133 (.pointer (some ⟨b3_0_0, 0, none⟩)) (by kernel_rfl) (by kernel_rfl) (fun _ => by kernel_rfl) ?_
      refine s_pure 134 (.int .i64 y1_3) (by kernel_rfl) (by kernel_rfl) (fun _ => by kernel_rfl) ?_
      refine s_pure 135 (.int .i64 y1_1) (by kernel_rfl) (by kernel_rfl) (fun _ => by kernel_rfl) ?_
      refine s_pure 136 (.int .i64 (wr ((3 : Int) + y1_7))) (by kernel_rfl) (by kernel_rfl) (fun _ => by kernel_rfl) ?_
      refine s_pure 137 (.int .i64 e1_25) (by kernel_rfl) (by kernel_rfl) (fun _ => by kernel_rfl) ?_
      refine s_pure 138 (.slice a2_3 (List.length l2_3) c2_3) (by kernel_rfl) (by kernel_rfl) (fun _ => by kernel_rfl) ?_
      refine s_pure 139 (.agg #[.int .i64 (7), .int .i64 (0), .int .i64 (0), .int .i64 y1_3, .int .i64 y1_1, .int .i64 (wr ((3 : Int) + y1_7)), .int .i64 e1_25, .bool false, .slice a2_3 (List.length l2_3) c2_3]) (by kernel_rfl) (by kernel_rfl) (fun _ => by kernel_rfl) ?_
      obtain ⟨y15_9, hy15_9, H⟩ := bindE H
      refine s_call 140 25 #[.agg #[.int .i64 y6_2.kind, .int .i64 y6_2.line, .int .i64 y6_2.id, .int .i64 y6_2.step, .int .i64 y6_2.state, .int .i64 y6_2.head, .slice a6_2_00 (List.length y6_2.data) c6_2_00, .int .i64 y6_2.next, .int .i64 y6_2.told], .int .i64 y1_5, .pointer (some ⟨b3_0_0, 0, none⟩), .agg #[.int .i64 (7), .int .i64 (0), .int .i64 (0), .int .i64 y1_3, .int .i64 y1_1, .int .i64 (wr ((3 : Int) + y1_7)), .int .i64 e1_25, .bool false, .slice a2_3 (List.length l2_3) c2_3]] (by kernel_rfl) (by kernel_rfl) (fun _ => by kernel_rfl) (Tr.conv (Γ' := (ImmI a6_2_00 y6_2.data) :: (CacheA b3_0_0 y3_0.1) :: (ImmI a6_2_00 y6_2.data) :: (Asn.own b6_3 (.cells #[.int .i64 y6_2.kind, .int .i64 y6_2.line, .int .i64 y6_2.id, .int .i64 y6_2.step, .int .i64 y6_2.state, .int .i64 y6_2.head, .slice a6_2_00 (List.length y6_2.data) c6_2_00, .int .i64 y6_2.next, .int .i64 y6_2.told] 35 (0, 0))) :: (RCacheA b3_0_1 y3_0.2) :: (IntsA a2_7 c2_7 l2_7) :: (IntsA a2_3 c2_3 l2_3) :: Γ) (fun w hw => (Sat.less (.take .here (.take (.there (.there .here)) (.take .here (.take .here (.take .here (.take .here (.take .here .refl))))))) (ImmR.dup (Sat.less (.take (.there .here) (.take .here (.take .here (.take .here (.take .here (.take .here .refl)))))) hw)))) (ANextF_tr a6_2_00 c6_2_00 y6_2 y1_5 b3_0_0 y3_0.1 a2_3 c2_3 (⟨7, 0, 0, y1_3, y1_1, wr ((3 : Int) + y1_7), e1_25, false, l2_3⟩ : PktS) (RowsA.reads (k := 1) (.there (.there (.there (.there .here))))) y15_9 hy15_9)) ?_
      rintro _ _ ⟨a15_9_00, c15_9_00, rfl, rfl⟩
      refine s_pure 130 (.tuple #[.agg #[.int .i64 y15_9.1.kind, .int .i64 y15_9.1.line, .int .i64 y15_9.1.id, .int .i64 y15_9.1.step, .int .i64 y15_9.1.state, .int .i64 y15_9.1.head, .slice a15_9_00 (List.length y15_9.1.data) c15_9_00, .int .i64 y15_9.1.next, .int .i64 y15_9.1.told], .bool y15_9.2.1]) (by kernel_rfl) (by kernel_rfl) (fun _ => by kernel_rfl) ?_
      refine s_pure 141 (.agg #[.int .i64 y15_9.1.kind, .int .i64 y15_9.1.line, .int .i64 y15_9.1.id, .int .i64 y15_9.1.step, .int .i64 y15_9.1.state, .int .i64 y15_9.1.head, .slice a15_9_00 (List.length y15_9.1.data) c15_9_00, .int .i64 y15_9.1.next, .int .i64 y15_9.1.told]) (by kernel_rfl) (by kernel_rfl) (fun _ => by kernel_rfl) ?_
      refine s_pure 142 (.bool y15_9.2.1) (by kernel_rfl) (by kernel_rfl) (fun _ => by kernel_rfl) ?_
      refine s_do (by kernel_rfl) (by kernel_rfl) (st_store (off := 0) (vs := [.int .i64 y15_9.1.kind, .int .i64 y15_9.1.line, .int .i64 y15_9.1.id, .int .i64 y15_9.1.step, .int .i64 y15_9.1.state, .int .i64 y15_9.1.head, .slice a15_9_00 (List.length y15_9.1.data) c15_9_00, .int .i64 y15_9.1.next, .int .i64 y15_9.1.told]) (c' := #[.int .i64 y15_9.1.kind, .int .i64 y15_9.1.line, .int .i64 y15_9.1.id, .int .i64 y15_9.1.step, .int .i64 y15_9.1.state, .int .i64 y15_9.1.head, .slice a15_9_00 (List.length y15_9.1.data) c15_9_00, .int .i64 y15_9.1.next, .int .i64 y15_9.1.told]) (fun _ => by kernel_rfl) (.there (.there (.there .here))) (by kernel_rfl) (by kernel_rfl) (by kernel_rfl)) ?_
      rintro _ _ ⟨rfl, rfl⟩
      refine s_pure 26 (.bool y15_9.2.1) (by kernel_rfl) (by kernel_rfl) (fun _ => by kernel_rfl) ?_
      refine ops_end ?_
      refine At.env [(0, .int .i64 y1_1), (1, .int .i64 y1_3), (2, .int .i64 y1_5), (3, .int .i64 (wr ((3 : Int) + y1_7))), (4, .slice a2_3 (List.length l2_3) c2_3), (5, .slice a2_7 (List.length l2_7) c2_7), (7, .bool dirty), (16, .bool false), (17, .pointer (some ⟨b3_0_0, 0, none⟩)), (19, .pointer (some ⟨b6_3, 0, none⟩)), (25, .int .i64 e1_25), (26, .bool y15_9.2.1)] ⟨by kernel_rfl, by kernel_rfl, by kernel_rfl, by kernel_rfl, by kernel_rfl, by kernel_rfl, by kernel_rfl, by kernel_rfl, by kernel_rfl, by kernel_rfl, by kernel_rfl, by kernel_rfl, trivial⟩ ?_
      refine at_then_normal ?_
      refine at_seq (x := C5 [1, 1, 1, 1, 1, 1, 1, 1, 1, 1, 0]) (y := C5 [1, 1, 1, 1, 1, 1, 1, 1, 1, 1, 1]) (by kernel_rfl) ?_
      refine at_region (id := 16) 5 (by kernel_rfl) (by kernel_rfl) ?_
      refine s_load 143 (.agg #[.int .i64 y15_9.1.kind, .int .i64 y15_9.1.line, .int .i64 y15_9.1.id, .int .i64 y15_9.1.step, .int .i64 y15_9.1.state, .int .i64 y15_9.1.head, .slice a15_9_00 (List.length y15_9.1.data) c15_9_00, .int .i64 y15_9.1.next, .int .i64 y15_9.1.told]) (by kernel_rfl) (by kernel_rfl) (loadN (off := 0) (vs := [.int .i64 y15_9.1.kind, .int .i64 y15_9.1.line, .int .i64 y15_9.1.id, .int .i64 y15_9.1.step, .int .i64 y15_9.1.state, .int .i64 y15_9.1.head, .slice a15_9_00 (List.length y15_9.1.data) c15_9_00, .int .i64 y15_9.1.next, .int .i64 y15_9.1.told]) 9 (fun _ => by kernel_rfl) (holds_own .here) rfl (by exact ⟨rfl, rfl, rfl, rfl, rfl, rfl, rfl, rfl, rfl, trivial⟩)) ?_
      refine s_pure 144 (.int .i64 y1_5) (by kernel_rfl) (by kernel_rfl) (fun _ => by kernel_rfl) ?_
      obtain ⟨y16_2, hy16_2, H⟩ := bindE H
      refine s_call 145 26 #[.agg #[.int .i64 y15_9.1.kind, .int .i64 y15_9.1.line, .int .i64 y15_9.1.id, .int .i64 y15_9.1.step, .int .i64 y15_9.1.state, .int .i64 y15_9.1.head, .slice a15_9_00 (List.length y15_9.1.data) c15_9_00, .int .i64 y15_9.1.next, .int .i64 y15_9.1.told], .int .i64 y1_5, .int .i64 (0)] (by kernel_rfl) (by kernel_rfl) (fun _ => by kernel_rfl) (DAskF_tr a15_9_00 c15_9_00 y15_9.1 y1_5 (0 : Int) (ImmR.reads (k := 1) (.there .here)) y16_2 hy16_2) ?_
      rintro _ _ ⟨a16_2_00, c16_2_00, rfl, rfl⟩
      refine s_step 27 (by kernel_rfl) (by kernel_rfl) (st_new (T := 40) (cells := #[.int .i64 (0), .int .i64 (0), .int .i64 (0), .int .i64 (0), .int .i64 (0), .int .i64 (0), .int .i64 (0), .bool false, .slice none 0 0]) (fun a => .pointer (some a)) (fun _ => by kernel_rfl)) ?_
      rintro _ _ ⟨b16_3, rfl, rfl⟩
      refine s_do (by kernel_rfl) (by kernel_rfl) (st_store (off := 0) (vs := [.int .i64 y16_2.kind, .int .i64 y16_2.src, .int .i64 y16_2.dst, .int .i64 y16_2.id, .int .i64 y16_2.line, .int .i64 y16_2.ptr, .int .i64 y16_2.state, .bool y16_2.flag, .slice a16_2_00 (List.length y16_2.data) c16_2_00]) (c' := #[.int .i64 y16_2.kind, .int .i64 y16_2.src, .int .i64 y16_2.dst, .int .i64 y16_2.id, .int .i64 y16_2.line, .int .i64 y16_2.ptr, .int .i64 y16_2.state, .bool y16_2.flag, .slice a16_2_00 (List.length y16_2.data) c16_2_00]) (fun _ => by kernel_rfl) .here (by kernel_rfl) (by kernel_rfl) (by kernel_rfl)) ?_
      rintro _ _ ⟨rfl, rfl⟩
      refine ops_end ?_
      refine At.env [(0, .int .i64 y1_1), (1, .int .i64 y1_3), (2, .int .i64 y1_5), (3, .int .i64 (wr ((3 : Int) + y1_7))), (4, .slice a2_3 (List.length l2_3) c2_3), (5, .slice a2_7 (List.length l2_7) c2_7), (7, .bool dirty), (16, .bool false), (17, .pointer (some ⟨b3_0_0, 0, none⟩)), (19, .pointer (some ⟨b6_3, 0, none⟩)), (25, .int .i64 e1_25), (26, .bool y15_9.2.1), (27, .pointer (some ⟨b16_3, 0, none⟩))] ⟨by kernel_rfl, by kernel_rfl, by kernel_rfl, by kernel_rfl, by kernel_rfl, by kernel_rfl, by kernel_rfl, by kernel_rfl, by kernel_rfl, by kernel_rfl, by kernel_rfl, by kernel_rfl, by kernel_rfl, trivial⟩ ?_
      refine at_then_normal ?_
      refine at_seq (x := C5 [1, 1, 1, 1, 1, 1, 1, 1, 1, 1, 1, 0]) (y := C5 [1, 1, 1, 1, 1, 1, 1, 1, 1, 1, 1, 1]) (by kernel_rfl) ?_
      refine at_seq (x := C5 [1, 1, 1, 1, 1, 1, 1, 1, 1, 1, 1, 0, 0]) (y := C5 [1, 1, 1, 1, 1, 1, 1, 1, 1, 1, 1, 0, 1]) (by kernel_rfl) ?_
      refine at_region (id := 17) 9 (by kernel_rfl) (by kernel_rfl) ?_
      refine s_pure 147 (.pointer (some ⟨b3_0_0, 0, none⟩)) (by kernel_rfl) (by kernel_rfl) (fun _ => by kernel_rfl) ?_
      refine s_pure 148 (.int .i64 y1_1) (by kernel_rfl) (by kernel_rfl) (fun _ => by kernel_rfl) ?_
      obtain ⟨y17_2, hy17_2, H⟩ := bindE H
      refine s_call 149 18 #[.pointer (some ⟨b3_0_0, 0, none⟩), .int .i64 y1_1] (by kernel_rfl) (by kernel_rfl) (fun _ => by kernel_rfl) (Tr.conv (Γ' := (CacheA b3_0_0 y15_9.2.2) :: (Asn.own b16_3 (.cells #[.int .i64 y16_2.kind, .int .i64 y16_2.src, .int .i64 y16_2.dst, .int .i64 y16_2.id, .int .i64 y16_2.line, .int .i64 y16_2.ptr, .int .i64 y16_2.state, .bool y16_2.flag, .slice a16_2_00 (List.length y16_2.data) c16_2_00] 40 (0, 0))) :: (IntsA a16_2_00 c16_2_00 y16_2.data) :: (Asn.own b6_3 (.cells #[.int .i64 y15_9.1.kind, .int .i64 y15_9.1.line, .int .i64 y15_9.1.id, .int .i64 y15_9.1.step, .int .i64 y15_9.1.state, .int .i64 y15_9.1.head, .slice a15_9_00 (List.length y15_9.1.data) c15_9_00, .int .i64 y15_9.1.next, .int .i64 y15_9.1.told] 35 (0, 0))) :: (ImmI a15_9_00 y15_9.1.data) :: (ImmI a6_2_00 y6_2.data) :: (RCacheA b3_0_1 y3_0.2) :: (IntsA a2_7 c2_7 l2_7) :: (IntsA a2_3 c2_3 l2_3) :: Γ) (fun w hw => (Sat.less (.take (.there (.there (.there (.there .here)))) (.take .here (.take .here (.take .here (.take .here (.take .here (.take .here (.take .here (.take .here .refl))))))))) hw)) (FindF_tr b3_0_0 y15_9.2.2 y1_1 y17_2 hy17_2)) ?_
      rintro _ _ ⟨a17_2_00, c17_2_00, rfl, rfl⟩
      refine s_pure 146 (.tuple #[.agg #[.int .i64 y17_2.1.fwd, .int .i64 y17_2.1.back, .int .i64 y17_2.1.line, .int .i64 y17_2.1.used, .bool y17_2.1.dirty, .slice a17_2_00 (List.length y17_2.1.data) c17_2_00], .bool y17_2.2]) (by kernel_rfl) (by kernel_rfl) (fun _ => by kernel_rfl) ?_
      refine s_pure 150 (.agg #[.int .i64 y17_2.1.fwd, .int .i64 y17_2.1.back, .int .i64 y17_2.1.line, .int .i64 y17_2.1.used, .bool y17_2.1.dirty, .slice a17_2_00 (List.length y17_2.1.data) c17_2_00]) (by kernel_rfl) (by kernel_rfl) (fun _ => by kernel_rfl) ?_
      refine s_pure 151 (.bool y17_2.2) (by kernel_rfl) (by kernel_rfl) (fun _ => by kernel_rfl) ?_
      refine s_step 28 (by kernel_rfl) (by kernel_rfl) (st_new (T := 32) (cells := #[.int .i64 (0), .int .i64 (0), .int .i64 (0), .int .i64 (0), .bool false, .slice none 0 0]) (fun a => .pointer (some a)) (fun _ => by kernel_rfl)) ?_
      rintro _ _ ⟨b17_6, rfl, rfl⟩
      refine s_do (by kernel_rfl) (by kernel_rfl) (st_store (off := 0) (vs := [.int .i64 y17_2.1.fwd, .int .i64 y17_2.1.back, .int .i64 y17_2.1.line, .int .i64 y17_2.1.used, .bool y17_2.1.dirty, .slice a17_2_00 (List.length y17_2.1.data) c17_2_00]) (c' := #[.int .i64 y17_2.1.fwd, .int .i64 y17_2.1.back, .int .i64 y17_2.1.line, .int .i64 y17_2.1.used, .bool y17_2.1.dirty, .slice a17_2_00 (List.length y17_2.1.data) c17_2_00]) (fun _ => by kernel_rfl) .here (by kernel_rfl) (by kernel_rfl) (by kernel_rfl)) ?_
      rintro _ _ ⟨rfl, rfl⟩
      refine s_pure 29 (.bool y17_2.2) (by kernel_rfl) (by kernel_rfl) (fun _ => by kernel_rfl) ?_
      refine ops_end ?_
      refine At.env [(0, .int .i64 y1_1), (1, .int .i64 y1_3), (2, .int .i64 y1_5), (3, .int .i64 (wr ((3 : Int) + y1_7))), (4, .slice a2_3 (List.length l2_3) c2_3), (5, .slice a2_7 (List.length l2_7) c2_7), (7, .bool dirty), (16, .bool false), (17, .pointer (some ⟨b3_0_0, 0, none⟩)), (19, .pointer (some ⟨b6_3, 0, none⟩)), (25, .int .i64 e1_25), (26, .bool y15_9.2.1), (27, .pointer (some ⟨b16_3, 0, none⟩)), (29, .bool y17_2.2)] ⟨by kernel_rfl, by kernel_rfl, by kernel_rfl, by kernel_rfl, by kernel_rfl, by kernel_rfl, by kernel_rfl, by kernel_rfl, by kernel_rfl, by kernel_rfl, by kernel_rfl, by kernel_rfl, by kernel_rfl, by kernel_rfl, trivial⟩ ?_
      refine at_then_normal ?_
      refine at_seq_join (x := C5 [1, 1, 1, 1, 1, 1, 1, 1, 1, 1, 1, 0, 1, 0]) (y := C5 [1, 1, 1, 1, 1, 1, 1, 1, 1, 1, 1, 0, 1, 1]) (fun ff ΔΔ => ∃ (e2_173 : Bool), attachReadsS_j2 y15_9 y1_5 y1_3 y1_1 dirty l2_7 y1_7 e2_173 = some y ∧ ff = [(0, .int .i64 y1_1), (1, .int .i64 y1_3), (2, .int .i64 y1_5), (3, .int .i64 (wr ((3 : Int) + y1_7))), (5, .slice a2_7 (List.length l2_7) c2_7), (7, .bool dirty), (16, .bool false), (17, .pointer (some ⟨b3_0_0, 0, none⟩)), (19, .pointer (some ⟨b6_3, 0, none⟩)), (26, .bool y15_9.2.1), (27, .pointer (some ⟨b16_3, 0, none⟩)), (173, .bool e2_173)] ∧ (CacheA b3_0_0 y15_9.2.2) :: (Asn.own b16_3 (.cells #[.int .i64 y16_2.kind, .int .i64 y16_2.src, .int .i64 y16_2.dst, .int .i64 y16_2.id, .int .i64 y16_2.line, .int .i64 y16_2.ptr, .int .i64 y16_2.state, .bool y16_2.flag, .slice a16_2_00 (List.length y16_2.data) c16_2_00] 40 (0, 0))) :: (IntsA a16_2_00 c16_2_00 y16_2.data) :: (Asn.own b6_3 (.cells #[.int .i64 y15_9.1.kind, .int .i64 y15_9.1.line, .int .i64 y15_9.1.id, .int .i64 y15_9.1.step, .int .i64 y15_9.1.state, .int .i64 y15_9.1.head, .slice a15_9_00 (List.length y15_9.1.data) c15_9_00, .int .i64 y15_9.1.next, .int .i64 y15_9.1.told] 35 (0, 0))) :: (ImmI a15_9_00 y15_9.1.data) :: (RCacheA b3_0_1 y3_0.2) :: (IntsA a2_7 c2_7 l2_7) :: Γ = ΔΔ) (by kernel_rfl) ?_ ?_
      · rintro _ _ ⟨e2_173, H, rfl, rfl⟩
        rw [attachReadsS_j2] at H
        rcases Bool.eq_false_or_eq_true (e2_173) with h12 | h12
        · replace H := bifT H h12
          refine at_true (t := e2_173) (x := C5 [1, 1, 1, 1, 1, 1, 1, 1, 1, 1, 1, 0, 1, 1, 0]) (y := C5 [1, 1, 1, 1, 1, 1, 1, 1, 1, 1, 1, 0, 1, 1, 1]) (o := .tmp 173) (by kernel_rfl) (by kernel_rfl) (by kernel_rfl) h12 ?_
          refine at_seq (x := C5 [1, 1, 1, 1, 1, 1, 1, 1, 1, 1, 1, 0, 1, 1, 0, 0]) (y := C5 [1, 1, 1, 1, 1, 1, 1, 1, 1, 1, 1, 0, 1, 1, 0, 1]) (by kernel_rfl) ?_
          refine at_region (id := 19) 1 (by kernel_rfl) (by kernel_rfl) ?_
          refine s_pure 16 (.bool false) (by kernel_rfl) (by kernel_rfl) (fun _ => by kernel_rfl) ?_
          refine ops_end ?_
          refine At.env [(0, .int .i64 y1_1), (1, .int .i64 y1_3), (2, .int .i64 y1_5), (3, .int .i64 (wr ((3 : Int) + y1_7))), (5, .slice a2_7 (List.length l2_7) c2_7), (7, .bool dirty), (16, .bool false), (17, .pointer (some ⟨b3_0_0, 0, none⟩)), (19, .pointer (some ⟨b6_3, 0, none⟩)), (26, .bool y15_9.2.1), (27, .pointer (some ⟨b16_3, 0, none⟩)), (173, .bool e2_173)] ⟨by kernel_rfl, by kernel_rfl, by kernel_rfl, by kernel_rfl, by kernel_rfl, by kernel_rfl, by kernel_rfl, by kernel_rfl, by kernel_rfl, by kernel_rfl, by kernel_rfl, by kernel_rfl, trivial⟩ ?_
          refine at_then_normal ?_
          refine at_ret (by kernel_rfl) ?_
          refine at_then_ret ?_
          obtain rfl := someE H
          refine at_backR [.bool false] (Γ) (rs := [.tmp 16]) (by kernel_rfl) (.cons (.tmp (by kernel_rfl)) .nil) (fun w hw => (Sat.less (.drop .here (.drop .here (.drop .here (.drop .here (.drop .here (.drop .here (.drop .here .refl))))))) hw)) ?_
          exact ⟨rfl, rfl⟩
        · replace H := bifF H h12
          refine at_false (t := e2_173) (x := C5 [1, 1, 1, 1, 1, 1, 1, 1, 1, 1, 1, 0, 1, 1, 0]) (y := C5 [1, 1, 1, 1, 1, 1, 1, 1, 1, 1, 1, 0, 1, 1, 1]) (o := .tmp 173) (by kernel_rfl) (by kernel_rfl) (by kernel_rfl) h12 ?_
          refine at_skip (by kernel_rfl) ?_
          refine at_then_normal ?_
          refine at_seq (x := C5 [1, 1, 1, 1, 1, 1, 1, 1, 1, 1, 1, 1, 0]) (y := C5 [1, 1, 1, 1, 1, 1, 1, 1, 1, 1, 1, 1, 1]) (by kernel_rfl) ?_
          refine at_region (id := 20) 14 (by kernel_rfl) (by kernel_rfl) ?_
          refine s_load 175 (.agg #[.int .i64 y15_9.1.kind, .int .i64 y15_9.1.line, .int .i64 y15_9.1.id, .int .i64 y15_9.1.step, .int .i64 y15_9.1.state, .int .i64 y15_9.1.head, .slice a15_9_00 (List.length y15_9.1.data) c15_9_00, .int .i64 y15_9.1.next, .int .i64 y15_9.1.told]) (by kernel_rfl) (by kernel_rfl) (loadN (off := 0) (vs := [.int .i64 y15_9.1.kind, .int .i64 y15_9.1.line, .int .i64 y15_9.1.id, .int .i64 y15_9.1.step, .int .i64 y15_9.1.state, .int .i64 y15_9.1.head, .slice a15_9_00 (List.length y15_9.1.data) c15_9_00, .int .i64 y15_9.1.next, .int .i64 y15_9.1.told]) 9 (fun _ => by kernel_rfl) (holds_own (.there (.there (.there .here)))) rfl (by exact ⟨rfl, rfl, rfl, rfl, rfl, rfl, rfl, rfl, rfl, trivial⟩)) ?_
          refine s_pure 176 (.int .i64 y1_5) (by kernel_rfl) (by kernel_rfl) (fun _ => by kernel_rfl) ?_
          refine s_pure 177 (.pointer (some ⟨b3_0_0, 0, none⟩)) (by kernel_rfl) (by kernel_rfl) (fun _ => by kernel_rfl) ?_
          refine s_pure 178 (.int .i64 y1_3) (by kernel_rfl) (by kernel_rfl) (fun _ => by kernel_rfl) ?_
          refine s_pure 179 (.int .i64 y1_1) (by kernel_rfl) (by kernel_rfl) (fun _ => by kernel_rfl) ?_
          refine s_pure 180 (.bool dirty) (by kernel_rfl) (by kernel_rfl) (fun _ => by kernel_rfl) ?_
          refine s_pure 181 (.slice a2_7 (List.length l2_7) c2_7) (by kernel_rfl) (by kernel_rfl) (fun _ => by kernel_rfl) ?_
          refine s_pure 182 (.agg #[.int .i64 (9), .int .i64 (0), .int .i64 (0), .int .i64 y1_3, .int .i64 y1_1, .int .i64 (0), .int .i64 (0), .bool dirty, .slice a2_7 (List.length l2_7) c2_7]) (by kernel_rfl) (by kernel_rfl) (fun _ => by kernel_rfl) ?_
          obtain ⟨y20_8, hy20_8, H⟩ := bindE H
          refine s_call 183 25 #[.agg #[.int .i64 y15_9.1.kind, .int .i64 y15_9.1.line, .int .i64 y15_9.1.id, .int .i64 y15_9.1.step, .int .i64 y15_9.1.state, .int .i64 y15_9.1.head, .slice a15_9_00 (List.length y15_9.1.data) c15_9_00, .int .i64 y15_9.1.next, .int .i64 y15_9.1.told], .int .i64 y1_5, .pointer (some ⟨b3_0_0, 0, none⟩), .agg #[.int .i64 (9), .int .i64 (0), .int .i64 (0), .int .i64 y1_3, .int .i64 y1_1, .int .i64 (0), .int .i64 (0), .bool dirty, .slice a2_7 (List.length l2_7) c2_7]] (by kernel_rfl) (by kernel_rfl) (fun _ => by kernel_rfl) (Tr.conv (Γ' := (ImmI a15_9_00 y15_9.1.data) :: (CacheA b3_0_0 y15_9.2.2) :: (ImmI a15_9_00 y15_9.1.data) :: (Asn.own b16_3 (.cells #[.int .i64 y16_2.kind, .int .i64 y16_2.src, .int .i64 y16_2.dst, .int .i64 y16_2.id, .int .i64 y16_2.line, .int .i64 y16_2.ptr, .int .i64 y16_2.state, .bool y16_2.flag, .slice a16_2_00 (List.length y16_2.data) c16_2_00] 40 (0, 0))) :: (IntsA a16_2_00 c16_2_00 y16_2.data) :: (Asn.own b6_3 (.cells #[.int .i64 y15_9.1.kind, .int .i64 y15_9.1.line, .int .i64 y15_9.1.id, .int .i64 y15_9.1.step, .int .i64 y15_9.1.state, .int .i64 y15_9.1.head, .slice a15_9_00 (List.length y15_9.1.data) c15_9_00, .int .i64 y15_9.1.next, .int .i64 y15_9.1.told] 35 (0, 0))) :: (RCacheA b3_0_1 y3_0.2) :: (IntsA a2_7 c2_7 l2_7) :: Γ) (fun w hw => (Sat.less (.take .here (.take (.there .here) (.take .here (.take .here (.take .here (.take .here (.take .here (.take .here .refl)))))))) (ImmR.dup (Sat.less (.take (.there (.there (.there (.there .here)))) (.take .here (.take .here (.take .here (.take .here (.take .here (.take .here .refl))))))) hw)))) (ANextF_tr a15_9_00 c15_9_00 y15_9.1 y1_5 b3_0_0 y15_9.2.2 a2_7 c2_7 (⟨9, 0, 0, y1_3, y1_1, 0, 0, dirty, l2_7⟩ : PktS) (RowsA.reads (k := 1) (.there (.there (.there (.there (.there .here)))))) y20_8 hy20_8)) ?_
          rintro _ _ ⟨a20_8_00, c20_8_00, rfl, rfl⟩
          refine s_pure 174 (.tuple #[.agg #[.int .i64 y20_8.1.kind, .int .i64 y20_8.1.line, .int .i64 y20_8.1.id, .int .i64 y20_8.1.step, .int .i64 y20_8.1.state, .int .i64 y20_8.1.head, .slice a20_8_00 (List.length y20_8.1.data) c20_8_00, .int .i64 y20_8.1.next, .int .i64 y20_8.1.told], .bool y20_8.2.1]) (by kernel_rfl) (by kernel_rfl) (fun _ => by kernel_rfl) ?_
          refine s_pure 184 (.agg #[.int .i64 y20_8.1.kind, .int .i64 y20_8.1.line, .int .i64 y20_8.1.id, .int .i64 y20_8.1.step, .int .i64 y20_8.1.state, .int .i64 y20_8.1.head, .slice a20_8_00 (List.length y20_8.1.data) c20_8_00, .int .i64 y20_8.1.next, .int .i64 y20_8.1.told]) (by kernel_rfl) (by kernel_rfl) (fun _ => by kernel_rfl) ?_
          refine s_pure 185 (.bool y20_8.2.1) (by kernel_rfl) (by kernel_rfl) (fun _ => by kernel_rfl) ?_
          refine s_do (by kernel_rfl) (by kernel_rfl) (st_store (off := 0) (vs := [.int .i64 y20_8.1.kind, .int .i64 y20_8.1.line, .int .i64 y20_8.1.id, .int .i64 y20_8.1.step, .int .i64 y20_8.1.state, .int .i64 y20_8.1.head, .slice a20_8_00 (List.length y20_8.1.data) c20_8_00, .int .i64 y20_8.1.next, .int .i64 y20_8.1.told]) (c' := #[.int .i64 y20_8.1.kind, .int .i64 y20_8.1.line, .int .i64 y20_8.1.id, .int .i64 y20_8.1.step, .int .i64 y20_8.1.state, .int .i64 y20_8.1.head, .slice a20_8_00 (List.length y20_8.1.data) c20_8_00, .int .i64 y20_8.1.next, .int .i64 y20_8.1.told]) (fun _ => by kernel_rfl) (.there (.there (.there (.there (.there .here))))) (by kernel_rfl) (by kernel_rfl) (by kernel_rfl)) ?_
          rintro _ _ ⟨rfl, rfl⟩
          refine s_pure 26 (.bool y20_8.2.1) (by kernel_rfl) (by kernel_rfl) (fun _ => by kernel_rfl) ?_
          refine ops_end ?_
          refine At.env [(0, .int .i64 y1_1), (1, .int .i64 y1_3), (2, .int .i64 y1_5), (3, .int .i64 (wr ((3 : Int) + y1_7))), (5, .slice a2_7 (List.length l2_7) c2_7), (7, .bool dirty), (16, .bool false), (17, .pointer (some ⟨b3_0_0, 0, none⟩)), (19, .pointer (some ⟨b6_3, 0, none⟩)), (26, .bool y20_8.2.1), (27, .pointer (some ⟨b16_3, 0, none⟩)), (173, .bool e2_173)] ⟨by kernel_rfl, by kernel_rfl, by kernel_rfl, by kernel_rfl, by kernel_rfl, by kernel_rfl, by kernel_rfl, by kernel_rfl, by kernel_rfl, by kernel_rfl, by kernel_rfl, by kernel_rfl, trivial⟩ ?_
          refine at_then_normal ?_
          refine at_seq (x := C5 [1, 1, 1, 1, 1, 1, 1, 1, 1, 1, 1, 1, 1, 0]) (y := C5 [1, 1, 1, 1, 1, 1, 1, 1, 1, 1, 1, 1, 1, 1]) (by kernel_rfl) ?_
          refine at_region (id := 21) 9 (by kernel_rfl) (by kernel_rfl) ?_
          refine s_pure 187 (.pointer (some ⟨b3_0_0, 0, none⟩)) (by kernel_rfl) (by kernel_rfl) (fun _ => by kernel_rfl) ?_
          refine s_pure 188 (.int .i64 y1_1) (by kernel_rfl) (by kernel_rfl) (fun _ => by kernel_rfl) ?_
          obtain ⟨y21_2, hy21_2, H⟩ := bindE H
          refine s_call 189 18 #[.pointer (some ⟨b3_0_0, 0, none⟩), .int .i64 y1_1] (by kernel_rfl) (by kernel_rfl) (fun _ => by kernel_rfl) (Tr.conv (Γ' := (CacheA b3_0_0 y20_8.2.2) :: (Asn.own b6_3 (.cells #[.int .i64 y20_8.1.kind, .int .i64 y20_8.1.line, .int .i64 y20_8.1.id, .int .i64 y20_8.1.step, .int .i64 y20_8.1.state, .int .i64 y20_8.1.head, .slice a20_8_00 (List.length y20_8.1.data) c20_8_00, .int .i64 y20_8.1.next, .int .i64 y20_8.1.told] 35 (0, 0))) :: (ImmI a20_8_00 y20_8.1.data) :: (ImmI a15_9_00 y15_9.1.data) :: (Asn.own b16_3 (.cells #[.int .i64 y16_2.kind, .int .i64 y16_2.src, .int .i64 y16_2.dst, .int .i64 y16_2.id, .int .i64 y16_2.line, .int .i64 y16_2.ptr, .int .i64 y16_2.state, .bool y16_2.flag, .slice a16_2_00 (List.length y16_2.data) c16_2_00] 40 (0, 0))) :: (IntsA a16_2_00 c16_2_00 y16_2.data) :: (RCacheA b3_0_1 y3_0.2) :: (IntsA a2_7 c2_7 l2_7) :: Γ) (fun w hw => (Sat.less (.take (.there (.there .here)) (.take .here (.take .here (.take .here (.take .here (.take .here (.take .here (.take .here .refl)))))))) hw)) (FindF_tr b3_0_0 y20_8.2.2 y1_1 y21_2 hy21_2)) ?_
          rintro _ _ ⟨a21_2_00, c21_2_00, rfl, rfl⟩
          refine s_pure 186 (.tuple #[.agg #[.int .i64 y21_2.1.fwd, .int .i64 y21_2.1.back, .int .i64 y21_2.1.line, .int .i64 y21_2.1.used, .bool y21_2.1.dirty, .slice a21_2_00 (List.length y21_2.1.data) c21_2_00], .bool y21_2.2]) (by kernel_rfl) (by kernel_rfl) (fun _ => by kernel_rfl) ?_
          refine s_pure 190 (.agg #[.int .i64 y21_2.1.fwd, .int .i64 y21_2.1.back, .int .i64 y21_2.1.line, .int .i64 y21_2.1.used, .bool y21_2.1.dirty, .slice a21_2_00 (List.length y21_2.1.data) c21_2_00]) (by kernel_rfl) (by kernel_rfl) (fun _ => by kernel_rfl) ?_
          refine s_pure 191 (.bool y21_2.2) (by kernel_rfl) (by kernel_rfl) (fun _ => by kernel_rfl) ?_
          refine s_step 30 (by kernel_rfl) (by kernel_rfl) (st_new (T := 32) (cells := #[.int .i64 (0), .int .i64 (0), .int .i64 (0), .int .i64 (0), .bool false, .slice none 0 0]) (fun a => .pointer (some a)) (fun _ => by kernel_rfl)) ?_
          rintro _ _ ⟨b21_6, rfl, rfl⟩
          refine s_do (by kernel_rfl) (by kernel_rfl) (st_store (off := 0) (vs := [.int .i64 y21_2.1.fwd, .int .i64 y21_2.1.back, .int .i64 y21_2.1.line, .int .i64 y21_2.1.used, .bool y21_2.1.dirty, .slice a21_2_00 (List.length y21_2.1.data) c21_2_00]) (c' := #[.int .i64 y21_2.1.fwd, .int .i64 y21_2.1.back, .int .i64 y21_2.1.line, .int .i64 y21_2.1.used, .bool y21_2.1.dirty, .slice a21_2_00 (List.length y21_2.1.data) c21_2_00]) (fun _ => by kernel_rfl) .here (by kernel_rfl) (by kernel_rfl) (by kernel_rfl)) ?_
          rintro _ _ ⟨rfl, rfl⟩
          refine s_pure 31 (.bool y21_2.2) (by kernel_rfl) (by kernel_rfl) (fun _ => by kernel_rfl) ?_
          refine ops_end ?_
          refine At.env [(0, .int .i64 y1_1), (1, .int .i64 y1_3), (2, .int .i64 y1_5), (3, .int .i64 (wr ((3 : Int) + y1_7))), (5, .slice a2_7 (List.length l2_7) c2_7), (7, .bool dirty), (16, .bool false), (17, .pointer (some ⟨b3_0_0, 0, none⟩)), (19, .pointer (some ⟨b6_3, 0, none⟩)), (26, .bool y20_8.2.1), (27, .pointer (some ⟨b16_3, 0, none⟩)), (30, .pointer (some ⟨b21_6, 0, none⟩)), (31, .bool y21_2.2), (173, .bool e2_173)] ⟨by kernel_rfl, by kernel_rfl, by kernel_rfl, by kernel_rfl, by kernel_rfl, by kernel_rfl, by kernel_rfl, by kernel_rfl, by kernel_rfl, by kernel_rfl, by kernel_rfl, by kernel_rfl, by kernel_rfl, by kernel_rfl, trivial⟩ ?_
          refine at_then_normal ?_
          refine at_seq (x := C5 [1, 1, 1, 1, 1, 1, 1, 1, 1, 1, 1, 1, 1, 1, 0]) (y := C5 [1, 1, 1, 1, 1, 1, 1, 1, 1, 1, 1, 1, 1, 1, 1]) (by kernel_rfl) ?_
          refine at_region (id := 22) 4 (by kernel_rfl) (by kernel_rfl) ?_
          refine s_load 192 (.agg #[.int .i64 y20_8.1.kind, .int .i64 y20_8.1.line, .int .i64 y20_8.1.id, .int .i64 y20_8.1.step, .int .i64 y20_8.1.state, .int .i64 y20_8.1.head, .slice a20_8_00 (List.length y20_8.1.data) c20_8_00, .int .i64 y20_8.1.next, .int .i64 y20_8.1.told]) (by kernel_rfl) (by kernel_rfl) (loadN (off := 0) (vs := [.int .i64 y20_8.1.kind, .int .i64 y20_8.1.line, .int .i64 y20_8.1.id, .int .i64 y20_8.1.step, .int .i64 y20_8.1.state, .int .i64 y20_8.1.head, .slice a20_8_00 (List.length y20_8.1.data) c20_8_00, .int .i64 y20_8.1.next, .int .i64 y20_8.1.told]) 9 (fun _ => by kernel_rfl) (holds_own (.there (.there (.there .here)))) rfl (by exact ⟨rfl, rfl, rfl, rfl, rfl, rfl, rfl, rfl, rfl, trivial⟩)) ?_
          refine s_pure 193 (.int .i64 y1_5) (by kernel_rfl) (by kernel_rfl) (fun _ => by kernel_rfl) ?_
          obtain ⟨y22_2, hy22_2, H⟩ := bindE H
          refine s_call 194 26 #[.agg #[.int .i64 y20_8.1.kind, .int .i64 y20_8.1.line, .int .i64 y20_8.1.id, .int .i64 y20_8.1.step, .int .i64 y20_8.1.state, .int .i64 y20_8.1.head, .slice a20_8_00 (List.length y20_8.1.data) c20_8_00, .int .i64 y20_8.1.next, .int .i64 y20_8.1.told], .int .i64 y1_5, .int .i64 (0)] (by kernel_rfl) (by kernel_rfl) (fun _ => by kernel_rfl) (DAskF_tr a20_8_00 c20_8_00 y20_8.1 y1_5 (0 : Int) (ImmR.reads (k := 1) (.there (.there (.there (.there .here))))) y22_2 hy22_2) ?_
          rintro _ _ ⟨a22_2_00, c22_2_00, rfl, rfl⟩
          refine s_do (by kernel_rfl) (by kernel_rfl) (st_store (off := 0) (vs := [.int .i64 y22_2.kind, .int .i64 y22_2.src, .int .i64 y22_2.dst, .int .i64 y22_2.id, .int .i64 y22_2.line, .int .i64 y22_2.ptr, .int .i64 y22_2.state, .bool y22_2.flag, .slice a22_2_00 (List.length y22_2.data) c22_2_00]) (c' := #[.int .i64 y22_2.kind, .int .i64 y22_2.src, .int .i64 y22_2.dst, .int .i64 y22_2.id, .int .i64 y22_2.line, .int .i64 y22_2.ptr, .int .i64 y22_2.state, .bool y22_2.flag, .slice a22_2_00 (List.length y22_2.data) c22_2_00]) (fun _ => by kernel_rfl) (.there (.there (.there (.there (.there (.there (.there .here))))))) (by kernel_rfl) (by kernel_rfl) (by kernel_rfl)) ?_
          rintro _ _ ⟨rfl, rfl⟩
          refine ops_end ?_
          refine At.env [(0, .int .i64 y1_1), (1, .int .i64 y1_3), (2, .int .i64 y1_5), (3, .int .i64 (wr ((3 : Int) + y1_7))), (5, .slice a2_7 (List.length l2_7) c2_7), (7, .bool dirty), (16, .bool false), (17, .pointer (some ⟨b3_0_0, 0, none⟩)), (19, .pointer (some ⟨b6_3, 0, none⟩)), (26, .bool y20_8.2.1), (27, .pointer (some ⟨b16_3, 0, none⟩)), (30, .pointer (some ⟨b21_6, 0, none⟩)), (31, .bool y21_2.2), (173, .bool e2_173)] ⟨by kernel_rfl, by kernel_rfl, by kernel_rfl, by kernel_rfl, by kernel_rfl, by kernel_rfl, by kernel_rfl, by kernel_rfl, by kernel_rfl, by kernel_rfl, by kernel_rfl, by kernel_rfl, by kernel_rfl, by kernel_rfl, trivial⟩ ?_
          refine at_then_normal ?_
          refine at_seq_join (x := C5 [1, 1, 1, 1, 1, 1, 1, 1, 1, 1, 1, 1, 1, 1, 1, 0]) (y := C5 [1, 1, 1, 1, 1, 1, 1, 1, 1, 1, 1, 1, 1, 1, 1, 1]) (fun ff ΔΔ => attachReadsS_j3 y20_8 y1_5 y1_3 y1_1 = some y ∧ ff = [(0, .int .i64 y1_1), (1, .int .i64 y1_3), (2, .int .i64 y1_5), (16, .bool false), (17, .pointer (some ⟨b3_0_0, 0, none⟩)), (19, .pointer (some ⟨b6_3, 0, none⟩)), (26, .bool y20_8.2.1)] ∧ (CacheA b3_0_0 y20_8.2.2) :: (Asn.own b6_3 (.cells #[.int .i64 y20_8.1.kind, .int .i64 y20_8.1.line, .int .i64 y20_8.1.id, .int .i64 y20_8.1.step, .int .i64 y20_8.1.state, .int .i64 y20_8.1.head, .slice a20_8_00 (List.length y20_8.1.data) c20_8_00, .int .i64 y20_8.1.next, .int .i64 y20_8.1.told] 35 (0, 0))) :: (ImmI a20_8_00 y20_8.1.data) :: (RCacheA b3_0_1 y3_0.2) :: Γ = ΔΔ) (by kernel_rfl) ?_ ?_
          · rintro _ _ ⟨H, rfl, rfl⟩
            rw [attachReadsS_j3] at H
            refine at_seq (x := C5 [1, 1, 1, 1, 1, 1, 1, 1, 1, 1, 1, 1, 1, 1, 1, 1, 0]) (y := C5 [1, 1, 1, 1, 1, 1, 1, 1, 1, 1, 1, 1, 1, 1, 1, 1, 1]) (by kernel_rfl) ?_
            refine at_region (id := 25) 12 (by kernel_rfl) (by kernel_rfl) ?_
            refine s_load 268 (.agg #[.int .i64 y20_8.1.kind, .int .i64 y20_8.1.line, .int .i64 y20_8.1.id, .int .i64 y20_8.1.step, .int .i64 y20_8.1.state, .int .i64 y20_8.1.head, .slice a20_8_00 (List.length y20_8.1.data) c20_8_00, .int .i64 y20_8.1.next, .int .i64 y20_8.1.told]) (by kernel_rfl) (by kernel_rfl) (loadN (off := 0) (vs := [.int .i64 y20_8.1.kind, .int .i64 y20_8.1.line, .int .i64 y20_8.1.id, .int .i64 y20_8.1.step, .int .i64 y20_8.1.state, .int .i64 y20_8.1.head, .slice a20_8_00 (List.length y20_8.1.data) c20_8_00, .int .i64 y20_8.1.next, .int .i64 y20_8.1.told]) 9 (fun _ => by kernel_rfl) (holds_own (.there .here)) rfl (by exact ⟨rfl, rfl, rfl, rfl, rfl, rfl, rfl, rfl, rfl, trivial⟩)) ?_
            refine s_pure 269 (.int .i64 y1_5) (by kernel_rfl) (by kernel_rfl) (fun _ => by kernel_rfl) ?_
            refine s_pure 270 (.pointer (some ⟨b3_0_0, 0, none⟩)) (by kernel_rfl) (by kernel_rfl) (fun _ => by kernel_rfl) ?_
            refine s_pure 271 (.int .i64 y1_3) (by kernel_rfl) (by kernel_rfl) (fun _ => by kernel_rfl) ?_
            refine s_pure 272 (.int .i64 y1_1) (by kernel_rfl) (by kernel_rfl) (fun _ => by kernel_rfl) ?_
            refine s_pure 273 (.agg #[.int .i64 (8), .int .i64 (0), .int .i64 (0), .int .i64 y1_3, .int .i64 y1_1, .int .i64 (0), .int .i64 (0), .bool false, .slice none 0 0]) (by kernel_rfl) (by kernel_rfl) (fun _ => by kernel_rfl) ?_
            obtain ⟨y25_6, hy25_6, H⟩ := bindE H
            refine s_call 274 25 #[.agg #[.int .i64 y20_8.1.kind, .int .i64 y20_8.1.line, .int .i64 y20_8.1.id, .int .i64 y20_8.1.step, .int .i64 y20_8.1.state, .int .i64 y20_8.1.head, .slice a20_8_00 (List.length y20_8.1.data) c20_8_00, .int .i64 y20_8.1.next, .int .i64 y20_8.1.told], .int .i64 y1_5, .pointer (some ⟨b3_0_0, 0, none⟩), .agg #[.int .i64 (8), .int .i64 (0), .int .i64 (0), .int .i64 y1_3, .int .i64 y1_1, .int .i64 (0), .int .i64 (0), .bool false, .slice none 0 0]] (by kernel_rfl) (by kernel_rfl) (fun _ => by kernel_rfl) (Tr.conv (Γ' := (ImmI a20_8_00 y20_8.1.data) :: (CacheA b3_0_0 y20_8.2.2) :: (ImmI a20_8_00 y20_8.1.data) :: (Asn.own b6_3 (.cells #[.int .i64 y20_8.1.kind, .int .i64 y20_8.1.line, .int .i64 y20_8.1.id, .int .i64 y20_8.1.step, .int .i64 y20_8.1.state, .int .i64 y20_8.1.head, .slice a20_8_00 (List.length y20_8.1.data) c20_8_00, .int .i64 y20_8.1.next, .int .i64 y20_8.1.told] 35 (0, 0))) :: (RCacheA b3_0_1 y3_0.2) :: Γ) (fun w hw => (Sat.less (.take .here (.take (.there .here) (.take .here (.take .here (.take .here .refl))))) (ImmR.dup (Sat.less (.take (.there (.there .here)) (.take .here (.take .here (.take .here .refl)))) hw)))) (ANextF_tr a20_8_00 c20_8_00 y20_8.1 y1_5 b3_0_0 y20_8.2.2 none 0 (⟨8, 0, 0, y1_3, y1_1, 0, 0, false, ([] : List Int)⟩ : PktS) Reads.nil y25_6 hy25_6)) ?_
            rintro _ _ ⟨a25_6_00, c25_6_00, rfl, rfl⟩
            refine s_pure 267 (.tuple #[.agg #[.int .i64 y25_6.1.kind, .int .i64 y25_6.1.line, .int .i64 y25_6.1.id, .int .i64 y25_6.1.step, .int .i64 y25_6.1.state, .int .i64 y25_6.1.head, .slice a25_6_00 (List.length y25_6.1.data) c25_6_00, .int .i64 y25_6.1.next, .int .i64 y25_6.1.told], .bool y25_6.2.1]) (by kernel_rfl) (by kernel_rfl) (fun _ => by kernel_rfl) ?_
            refine s_pure 275 (.agg #[.int .i64 y25_6.1.kind, .int .i64 y25_6.1.line, .int .i64 y25_6.1.id, .int .i64 y25_6.1.step, .int .i64 y25_6.1.state, .int .i64 y25_6.1.head, .slice a25_6_00 (List.length y25_6.1.data) c25_6_00, .int .i64 y25_6.1.next, .int .i64 y25_6.1.told]) (by kernel_rfl) (by kernel_rfl) (fun _ => by kernel_rfl) ?_
            refine s_pure 276 (.bool y25_6.2.1) (by kernel_rfl) (by kernel_rfl) (fun _ => by kernel_rfl) ?_
            refine s_do (by kernel_rfl) (by kernel_rfl) (st_store (off := 0) (vs := [.int .i64 y25_6.1.kind, .int .i64 y25_6.1.line, .int .i64 y25_6.1.id, .int .i64 y25_6.1.step, .int .i64 y25_6.1.state, .int .i64 y25_6.1.head, .slice a25_6_00 (List.length y25_6.1.data) c25_6_00, .int .i64 y25_6.1.next, .int .i64 y25_6.1.told]) (c' := #[.int .i64 y25_6.1.kind, .int .i64 y25_6.1.line, .int .i64 y25_6.1.id, .int .i64 y25_6.1.step, .int .i64 y25_6.1.state, .int .i64 y25_6.1.head, .slice a25_6_00 (List.length y25_6.1.data) c25_6_00, .int .i64 y25_6.1.next, .int .i64 y25_6.1.told]) (fun _ => by kernel_rfl) (.there (.there (.there .here))) (by kernel_rfl) (by kernel_rfl) (by kernel_rfl)) ?_
            rintro _ _ ⟨rfl, rfl⟩
            refine s_pure 26 (.bool y25_6.2.1) (by kernel_rfl) (by kernel_rfl) (fun _ => by kernel_rfl) ?_
            refine ops_end ?_
            refine At.env [(0, .int .i64 y1_1), (1, .int .i64 y1_3), (2, .int .i64 y1_5), (16, .bool false), (17, .pointer (some ⟨b3_0_0, 0, none⟩)), (19, .pointer (some ⟨b6_3, 0, none⟩)), (26, .bool y25_6.2.1)] ⟨by kernel_rfl, by kernel_rfl, by kernel_rfl, by kernel_rfl, by kernel_rfl, by kernel_rfl, by kernel_rfl, trivial⟩ ?_
            refine at_then_normal ?_
            refine at_seq (x := C5 [1, 1, 1, 1, 1, 1, 1, 1, 1, 1, 1, 1, 1, 1, 1, 1, 1, 0]) (y := C5 [1, 1, 1, 1, 1, 1, 1, 1, 1, 1, 1, 1, 1, 1, 1, 1, 1, 1]) (by kernel_rfl) ?_
            refine at_region (id := 26) 15 (by kernel_rfl) (by kernel_rfl) ?_
            refine s_pure 277 (.bool y25_6.2.1) (by kernel_rfl) (by kernel_rfl) (fun _ => by kernel_rfl) ?_
            rcases Bool.eq_false_or_eq_true (y25_6.2.1) with h13 | h13
            · replace H := bifT H h13
              refine s_pure 278 (.bool true) (by kernel_rfl) (by kernel_rfl) (run_eq (v := .bool (y25_6.2.1)) (fun _ => by kernel_rfl) (congrArg Value.bool h13)) ?_
              refine s_pure 279 (.pointer (some ⟨b6_3, 3, none⟩)) (by kernel_rfl) (by kernel_rfl) (fun _ => by kernel_rfl) ?_
              refine s_load 280 (.int .i64 y25_6.1.step) (by kernel_rfl) (by kernel_rfl) (load1 (off := 3) (fun _ => by kernel_rfl) (holds_own .here) (by kernel_rfl)) ?_
              refine s_pure 281 (.bool (decide (y25_6.1.step = (0 : Int)))) (by kernel_rfl) (by kernel_rfl) (fun _ => by kernel_rfl) ?_
              refine s_pure 282 (.bool (decide (y25_6.1.step = (0 : Int)))) (by kernel_rfl) (by kernel_rfl) (fun _ => by kernel_rfl) ?_
              rcases Bool.eq_false_or_eq_true (decide (y25_6.1.step = (0 : Int))) with h14 | h14
              · replace H := bifT H h14
                refine s_pure 283 (.bool true) (by kernel_rfl) (by kernel_rfl) (run_eq (v := .bool (decide (y25_6.1.step = (0 : Int)))) (fun _ => by kernel_rfl) (congrArg Value.bool h14)) ?_
                refine s_pure 284 (.pointer (some ⟨b3_0_0, 0, none⟩)) (by kernel_rfl) (by kernel_rfl) (fun _ => by kernel_rfl) ?_
                obtain ⟨y26_8, hy26_8, H⟩ := letE H
                refine s_call 285 23 #[.pointer (some ⟨b3_0_0, 0, none⟩)] (by kernel_rfl) (by kernel_rfl) (fun _ => by kernel_rfl) (Tr.conv (Γ' := (CacheA b3_0_0 y25_6.2.2) :: (Asn.own b6_3 (.cells #[.int .i64 y25_6.1.kind, .int .i64 y25_6.1.line, .int .i64 y25_6.1.id, .int .i64 y25_6.1.step, .int .i64 y25_6.1.state, .int .i64 y25_6.1.head, .slice a25_6_00 (List.length y25_6.1.data) c25_6_00, .int .i64 y25_6.1.next, .int .i64 y25_6.1.told] 35 (0, 0))) :: (ImmI a25_6_00 y25_6.1.data) :: (ImmI a20_8_00 y20_8.1.data) :: (RCacheA b3_0_1 y3_0.2) :: Γ) (fun w hw => (Sat.less (.take (.there (.there .here)) (.take .here (.take .here (.take .here (.take .here .refl))))) hw)) (LenF_tr b3_0_0 y25_6.2.2 y26_8 hy26_8)) ?_
                rintro _ _ ⟨rfl, rfl⟩
                refine s_pure 286 (.bool (decide (y26_8 = (1 : Int)))) (by kernel_rfl) (by kernel_rfl) (fun _ => by kernel_rfl) ?_
                refine s_pure 287 (.bool (decide (y26_8 = (1 : Int)))) (by kernel_rfl) (by kernel_rfl) (fun _ => by kernel_rfl) ?_
                rcases Bool.eq_false_or_eq_true (decide (y26_8 = (1 : Int))) with h15 | h15
                · replace H := bifT H h15
                  refine s_pure 288 (.bool true) (by kernel_rfl) (by kernel_rfl) (run_eq (v := .bool (decide (y26_8 = (1 : Int)))) (fun _ => by kernel_rfl) (congrArg Value.bool h15)) ?_
                  obtain ⟨y26_12, hy26_12, H⟩ := bindE H
                  refine s_call 289 28 #[] (by kernel_rfl) (by kernel_rfl) (fun _ => by kernel_rfl) (W14F_tr  y26_12 hy26_12) ?_
                  rintro _ _ ⟨rfl, rfl⟩
                  refine s_pure 290 (.bool y26_12) (by kernel_rfl) (by kernel_rfl) (fun _ => by kernel_rfl) ?_
                  refine s_pure 16 (.bool y26_12) (by kernel_rfl) (by kernel_rfl) (fun _ => by kernel_rfl) ?_
                  refine ops_end ?_
                  refine At.env [(0, .int .i64 y1_1), (1, .int .i64 y1_3), (2, .int .i64 y1_5), (16, .bool y26_12), (17, .pointer (some ⟨b3_0_0, 0, none⟩)), (19, .pointer (some ⟨b6_3, 0, none⟩)), (26, .bool y25_6.2.1)] ⟨by kernel_rfl, by kernel_rfl, by kernel_rfl, by kernel_rfl, by kernel_rfl, by kernel_rfl, by kernel_rfl, trivial⟩ ?_
                  refine at_then_normal ?_
                  refine at_ret (by kernel_rfl) ?_
                  obtain rfl := someE H
                  refine at_backR [.bool y26_12] (Γ) (rs := [.tmp 16]) (by kernel_rfl) (.cons (.tmp (by kernel_rfl)) .nil) (fun w hw => (Sat.less (.drop .here (.drop .here (.drop .here (.drop .here (.drop .here .refl))))) hw)) ?_
                  exact ⟨rfl, rfl⟩
                · replace H := bifF H h15
                  refine s_pure 288 (.bool false) (by kernel_rfl) (by kernel_rfl) (run_eq (v := .bool (decide (y26_8 = (1 : Int)))) (fun _ => by kernel_rfl) (congrArg Value.bool h15)) ?_
                  refine s_pass 289 (by kernel_rfl) (by kernel_rfl) ?_
                  refine s_pure 290 (.bool false) (by kernel_rfl) (by kernel_rfl) (fun _ => by kernel_rfl) ?_
                  refine s_pure 16 (.bool false) (by kernel_rfl) (by kernel_rfl) (fun _ => by kernel_rfl) ?_
                  refine ops_end ?_
                  refine At.env [(0, .int .i64 y1_1), (1, .int .i64 y1_3), (2, .int .i64 y1_5), (16, .bool false), (17, .pointer (some ⟨b3_0_0, 0, none⟩)), (19, .pointer (some ⟨b6_3, 0, none⟩)), (26, .bool y25_6.2.1)] ⟨by kernel_rfl, by kernel_rfl, by kernel_rfl, by kernel_rfl, by kernel_rfl, by kernel_rfl, by kernel_rfl, trivial⟩ ?_
                  refine at_then_normal ?_
                  refine at_ret (by kernel_rfl) ?_
                  obtain rfl := someE H
                  refine at_backR [.bool false] (Γ) (rs := [.tmp 16]) (by kernel_rfl) (.cons (.tmp (by kernel_rfl)) .nil) (fun w hw => (Sat.less (.drop .here (.drop .here (.drop .here (.drop .here (.drop .here .refl))))) hw)) ?_
                  exact ⟨rfl, rfl⟩
              · replace H := bifF H h14
                refine s_pure 283 (.bool false) (by kernel_rfl) (by kernel_rfl) (run_eq (v := .bool (decide (y25_6.1.step = (0 : Int)))) (fun _ => by kernel_rfl) (congrArg Value.bool h14)) ?_
                refine s_pass 284 (by kernel_rfl) (by kernel_rfl) ?_
                refine s_pass 285 (by kernel_rfl) (by kernel_rfl) ?_
                refine s_pass 286 (by kernel_rfl) (by kernel_rfl) ?_
                refine s_pure 287 (.bool false) (by kernel_rfl) (by kernel_rfl) (fun _ => by kernel_rfl) ?_
                refine s_pure 288 (.bool false) (by kernel_rfl) (by kernel_rfl) (fun _ => by kernel_rfl) ?_
                refine s_pass 289 (by kernel_rfl) (by kernel_rfl) ?_
                refine s_pure 290 (.bool false) (by kernel_rfl) (by kernel_rfl) (fun _ => by kernel_rfl) ?_
                refine s_pure 16 (.bool false) (by kernel_rfl) (by kernel_rfl) (fun _ => by kernel_rfl) ?_
                refine ops_end ?_
                refine At.env [(0, .int .i64 y1_1), (1, .int .i64 y1_3), (2, .int .i64 y1_5), (16, .bool false), (17, .pointer (some ⟨b3_0_0, 0, none⟩)), (19, .pointer (some ⟨b6_3, 0, none⟩)), (26, .bool y25_6.2.1)] ⟨by kernel_rfl, by kernel_rfl, by kernel_rfl, by kernel_rfl, by kernel_rfl, by kernel_rfl, by kernel_rfl, trivial⟩ ?_
                refine at_then_normal ?_
                refine at_ret (by kernel_rfl) ?_
                obtain rfl := someE H
                refine at_backR [.bool false] (Γ) (rs := [.tmp 16]) (by kernel_rfl) (.cons (.tmp (by kernel_rfl)) .nil) (fun w hw => (Sat.less (.drop .here (.drop .here (.drop .here (.drop .here (.drop .here .refl))))) hw)) ?_
                exact ⟨rfl, rfl⟩
            · replace H := bifF H h13
              refine s_pure 278 (.bool false) (by kernel_rfl) (by kernel_rfl) (run_eq (v := .bool (y25_6.2.1)) (fun _ => by kernel_rfl) (congrArg Value.bool h13)) ?_
              refine s_pass 279 (by kernel_rfl) (by kernel_rfl) ?_
              refine s_pass 280 (by kernel_rfl) (by kernel_rfl) ?_
              refine s_pass 281 (by kernel_rfl) (by kernel_rfl) ?_
              refine s_pure 282 (.bool false) (by kernel_rfl) (by kernel_rfl) (fun _ => by kernel_rfl) ?_
              refine s_pure 283 (.bool false) (by kernel_rfl) (by kernel_rfl) (fun _ => by kernel_rfl) ?_
              refine s_pass 284 (by kernel_rfl) (by kernel_rfl) ?_
              refine s_pass 285 (by kernel_rfl) (by kernel_rfl) ?_
              refine s_pass 286 (by kernel_rfl) (by kernel_rfl) ?_
              refine s_pure 287 (.bool false) (by kernel_rfl) (by kernel_rfl) (fun _ => by kernel_rfl) ?_
              refine s_pure 288 (.bool false) (by kernel_rfl) (by kernel_rfl) (fun _ => by kernel_rfl) ?_
              refine s_pass 289 (by kernel_rfl) (by kernel_rfl) ?_
              refine s_pure 290 (.bool false) (by kernel_rfl) (by kernel_rfl) (fun _ => by kernel_rfl) ?_
              refine s_pure 16 (.bool false) (by kernel_rfl) (by kernel_rfl) (fun _ => by kernel_rfl) ?_
              refine ops_end ?_
              refine At.env [(0, .int .i64 y1_1), (1, .int .i64 y1_3), (2, .int .i64 y1_5), (16, .bool false), (17, .pointer (some ⟨b3_0_0, 0, none⟩)), (19, .pointer (some ⟨b6_3, 0, none⟩)), (26, .bool y25_6.2.1)] ⟨by kernel_rfl, by kernel_rfl, by kernel_rfl, by kernel_rfl, by kernel_rfl, by kernel_rfl, by kernel_rfl, trivial⟩ ?_
              refine at_then_normal ?_
              refine at_ret (by kernel_rfl) ?_
              obtain rfl := someE H
              refine at_backR [.bool false] (Γ) (rs := [.tmp 16]) (by kernel_rfl) (.cons (.tmp (by kernel_rfl)) .nil) (fun w hw => (Sat.less (.drop .here (.drop .here (.drop .here (.drop .here (.drop .here .refl))))) hw)) ?_
              exact ⟨rfl, rfl⟩
          · refine at_seq (x := C5 [1, 1, 1, 1, 1, 1, 1, 1, 1, 1, 1, 1, 1, 1, 1, 0, 0]) (y := C5 [1, 1, 1, 1, 1, 1, 1, 1, 1, 1, 1, 1, 1, 1, 1, 0, 1]) (by kernel_rfl) ?_
            refine at_region (id := 23) 72 (by kernel_rfl) (by kernel_rfl) ?_
            refine s_pure 195 (.bool y20_8.2.1) (by kernel_rfl) (by kernel_rfl) (fun _ => by kernel_rfl) ?_
            refine s_pure 196 (.bool !y20_8.2.1) (by kernel_rfl) (by kernel_rfl) (fun _ => by kernel_rfl) ?_
            rcases Bool.eq_false_or_eq_true (!y20_8.2.1) with h16 | h16
            · replace H := bifT H h16
              refine s_pure 197 (.bool true) (by kernel_rfl) (by kernel_rfl) (run_eq (v := .bool (!y20_8.2.1)) (fun _ => by kernel_rfl) (congrArg Value.bool h16)) ?_
              refine s_pass 198 (by kernel_rfl) (by kernel_rfl) ?_
              refine s_pass 199 (by kernel_rfl) (by kernel_rfl) ?_
              refine s_pure 200 (.bool true) (by kernel_rfl) (by kernel_rfl) (fun _ => by kernel_rfl) ?_
              refine s_pure 201 (.bool true) (by kernel_rfl) (by kernel_rfl) (fun _ => by kernel_rfl) ?_
              refine s_pass 202 (by kernel_rfl) (by kernel_rfl) ?_
              refine s_pass 203 (by kernel_rfl) (by kernel_rfl) ?_
              refine s_pass 204 (by kernel_rfl) (by kernel_rfl) ?_
              refine s_pass 205 (by kernel_rfl) (by kernel_rfl) ?_
              refine s_pass 206 (by kernel_rfl) (by kernel_rfl) ?_
              refine s_pure 207 (.bool true) (by kernel_rfl) (by kernel_rfl) (fun _ => by kernel_rfl) ?_
              refine s_pure 208 (.bool true) (by kernel_rfl) (by kernel_rfl) (fun _ => by kernel_rfl) ?_
              refine s_pass 209 (by kernel_rfl) (by kernel_rfl) ?_
              refine s_pass 210 (by kernel_rfl) (by kernel_rfl) ?_
              refine s_pass 211 (by kernel_rfl) (by kernel_rfl) ?_
              refine s_pass 212 (by kernel_rfl) (by kernel_rfl) ?_
              refine s_pure 213 (.bool true) (by kernel_rfl) (by kernel_rfl) (fun _ => by kernel_rfl) ?_
              refine s_pure 214 (.bool true) (by kernel_rfl) (by kernel_rfl) (fun _ => by kernel_rfl) ?_
              refine s_pass 215 (by kernel_rfl) (by kernel_rfl) ?_
              refine s_pass 216 (by kernel_rfl) (by kernel_rfl) ?_
              refine s_pure 217 (.bool true) (by kernel_rfl) (by kernel_rfl) (fun _ => by kernel_rfl) ?_
              refine s_pure 218 (.bool true) (by kernel_rfl) (by kernel_rfl) (fun _ => by kernel_rfl) ?_
              refine s_pass 219 (by kernel_rfl) (by kernel_rfl) ?_
              refine s_pass 220 (by kernel_rfl) (by kernel_rfl) ?_
              refine s_pass 221 (by kernel_rfl) (by kernel_rfl) ?_
              refine s_pass 222 (by kernel_rfl) (by kernel_rfl) ?_
              refine s_pass 223 (by kernel_rfl) (by kernel_rfl) ?_
              refine s_pure 224 (.bool true) (by kernel_rfl) (by kernel_rfl) (fun _ => by kernel_rfl) ?_
              refine s_pure 225 (.bool true) (by kernel_rfl) (by kernel_rfl) (fun _ => by kernel_rfl) ?_
              refine s_pass 226 (by kernel_rfl) (by kernel_rfl) ?_
              refine s_pass 227 (by kernel_rfl) (by kernel_rfl) ?_
              refine s_pass 228 (by kernel_rfl) (by kernel_rfl) ?_
              refine s_pure 229 (.bool true) (by kernel_rfl) (by kernel_rfl) (fun _ => by kernel_rfl) ?_
              refine s_pure 230 (.bool true) (by kernel_rfl) (by kernel_rfl) (fun _ => by kernel_rfl) ?_
              refine s_pass 231 (by kernel_rfl) (by kernel_rfl) ?_
              refine s_pass 232 (by kernel_rfl) (by kernel_rfl) ?_
              refine s_pass 233 (by kernel_rfl) (by kernel_rfl) ?_
              refine s_pure 234 (.bool true) (by kernel_rfl) (by kernel_rfl) (fun _ => by kernel_rfl) ?_
              refine s_pure 235 (.bool true) (by kernel_rfl) (by kernel_rfl) (fun _ => by kernel_rfl) ?_
              refine s_pass 236 (by kernel_rfl) (by kernel_rfl) ?_
              refine s_pass 237 (by kernel_rfl) (by kernel_rfl) ?_
              refine s_pass 238 (by kernel_rfl) (by kernel_rfl) ?_
              refine s_pass 239 (by kernel_rfl) (by kernel_rfl) ?_
              refine s_pure 240 (.bool true) (by kernel_rfl) (by kernel_rfl) (fun _ => by kernel_rfl) ?_
              refine s_pure 241 (.bool true) (by kernel_rfl) (by kernel_rfl) (fun _ => by kernel_rfl) ?_
              refine s_pass 242 (by kernel_rfl) (by kernel_rfl) ?_
              refine s_pass 243 (by kernel_rfl) (by kernel_rfl) ?_
              refine s_pass 244 (by kernel_rfl) (by kernel_rfl) ?_
              refine s_pass 245 (by kernel_rfl) (by kernel_rfl) ?_
              refine s_pure 246 (.bool true) (by kernel_rfl) (by kernel_rfl) (fun _ => by kernel_rfl) ?_
              refine s_pure 247 (.bool true) (by kernel_rfl) (by kernel_rfl) (fun _ => by kernel_rfl) ?_
              refine s_pass 248 (by kernel_rfl) (by kernel_rfl) ?_
              refine s_pass 249 (by kernel_rfl) (by kernel_rfl) ?_
              refine s_pass 250 (by kernel_rfl) (by kernel_rfl) ?_
              refine s_pass 251 (by kernel_rfl) (by kernel_rfl) ?_
              refine s_pass 252 (by kernel_rfl) (by kernel_rfl) ?_
              refine s_pass 253 (by kernel_rfl) (by kernel_rfl) ?_
              refine s_pass 254 (by kernel_rfl) (by kernel_rfl) ?_
              refine s_pass 255 (by kernel_rfl) (by kernel_rfl) ?_
              refine s_pure 256 (.bool true) (by kernel_rfl) (by kernel_rfl) (fun _ => by kernel_rfl) ?_
              refine s_pure 257 (.bool true) (by kernel_rfl) (by kernel_rfl) (fun _ => by kernel_rfl) ?_
              refine s_pass 258 (by kernel_rfl) (by kernel_rfl) ?_
              refine s_pass 259 (by kernel_rfl) (by kernel_rfl) ?_
              refine s_pass 260 (by kernel_rfl) (by kernel_rfl) ?_
              refine s_pass 261 (by kernel_rfl) (by kernel_rfl) ?_
              refine s_pass 262 (by kernel_rfl) (by kernel_rfl) ?_
              refine s_pass 263 (by kernel_rfl) (by kernel_rfl) ?_
              refine s_pass 264 (by kernel_rfl) (by kernel_rfl) ?_
              refine s_pass 265 (by kernel_rfl) (by kernel_rfl) ?_
              refine s_pure 266 (.bool true) (by kernel_rfl) (by kernel_rfl) (fun _ => by kernel_rfl) ?_
              refine ops_end ?_
              refine At.env [(0, .int .i64 y1_1), (1, .int .i64 y1_3), (2, .int .i64 y1_5), (3, .int .i64 (wr ((3 : Int) + y1_7))), (5, .slice a2_7 (List.length l2_7) c2_7), (7, .bool dirty), (16, .bool false), (17, .pointer (some ⟨b3_0_0, 0, none⟩)), (19, .pointer (some ⟨b6_3, 0, none⟩)), (26, .bool y20_8.2.1), (27, .pointer (some ⟨b16_3, 0, none⟩)), (30, .pointer (some ⟨b21_6, 0, none⟩)), (31, .bool y21_2.2), (173, .bool e2_173), (266, .bool true)] ⟨by kernel_rfl, by kernel_rfl, by kernel_rfl, by kernel_rfl, by kernel_rfl, by kernel_rfl, by kernel_rfl, by kernel_rfl, by kernel_rfl, by kernel_rfl, by kernel_rfl, by kernel_rfl, by kernel_rfl, by kernel_rfl, by kernel_rfl, trivial⟩ ?_
              refine at_then_normal ?_
              refine at_true (t := true) (x := C5 [1, 1, 1, 1, 1, 1, 1, 1, 1, 1, 1, 1, 1, 1, 1, 0, 1, 0]) (y := C5 [1, 1, 1, 1, 1, 1, 1, 1, 1, 1, 1, 1, 1, 1, 1, 0, 1, 1]) (o := .tmp 266) (by kernel_rfl) (by kernel_rfl) (by kernel_rfl) rfl ?_
              refine at_seq (x := C5 [1, 1, 1, 1, 1, 1, 1, 1, 1, 1, 1, 1, 1, 1, 1, 0, 1, 0, 0]) (y := C5 [1, 1, 1, 1, 1, 1, 1, 1, 1, 1, 1, 1, 1, 1, 1, 0, 1, 0, 1]) (by kernel_rfl) ?_
              refine at_region (id := 24) 1 (by kernel_rfl) (by kernel_rfl) ?_
              refine s_pure 16 (.bool false) (by kernel_rfl) (by kernel_rfl) (fun _ => by kernel_rfl) ?_
              refine ops_end ?_
              refine At.env [(0, .int .i64 y1_1), (1, .int .i64 y1_3), (2, .int .i64 y1_5), (3, .int .i64 (wr ((3 : Int) + y1_7))), (5, .slice a2_7 (List.length l2_7) c2_7), (7, .bool dirty), (16, .bool false), (17, .pointer (some ⟨b3_0_0, 0, none⟩)), (19, .pointer (some ⟨b6_3, 0, none⟩)), (26, .bool y20_8.2.1), (27, .pointer (some ⟨b16_3, 0, none⟩)), (30, .pointer (some ⟨b21_6, 0, none⟩)), (31, .bool y21_2.2), (173, .bool e2_173), (266, .bool true)] ⟨by kernel_rfl, by kernel_rfl, by kernel_rfl, by kernel_rfl, by kernel_rfl, by kernel_rfl, by kernel_rfl, by kernel_rfl, by kernel_rfl, by kernel_rfl, by kernel_rfl, by kernel_rfl, by kernel_rfl, by kernel_rfl, by kernel_rfl, trivial⟩ ?_
              refine at_then_normal ?_
              refine at_ret (by kernel_rfl) ?_
              refine at_then_ret ?_
              obtain rfl := someE H
              refine at_backR [.bool false] (Γ) (rs := [.tmp 16]) (by kernel_rfl) (.cons (.tmp (by kernel_rfl)) .nil) (fun w hw => (Sat.less (.drop .here (.drop .here (.drop .here (.drop .here (.drop .here (.drop .here (.drop .here (.drop .here (.drop .here (.drop .here (.drop .here .refl))))))))))) hw)) ?_
              exact ⟨rfl, rfl⟩
            · replace H := bifF H h16
              refine s_pure 197 (.bool false) (by kernel_rfl) (by kernel_rfl) (run_eq (v := .bool (!y20_8.2.1)) (fun _ => by kernel_rfl) (congrArg Value.bool h16)) ?_
              refine s_pure 198 (.bool y21_2.2) (by kernel_rfl) (by kernel_rfl) (fun _ => by kernel_rfl) ?_
              refine s_pure 199 (.bool !y21_2.2) (by kernel_rfl) (by kernel_rfl) (fun _ => by kernel_rfl) ?_
              refine s_pure 200 (.bool !y21_2.2) (by kernel_rfl) (by kernel_rfl) (fun _ => by kernel_rfl) ?_
              rcases Bool.eq_false_or_eq_true (!y21_2.2) with h17 | h17
              · replace H := bifT H h17
                refine s_pure 201 (.bool true) (by kernel_rfl) (by kernel_rfl) (run_eq (v := .bool (!y21_2.2)) (fun _ => by kernel_rfl) (congrArg Value.bool h17)) ?_
                refine s_pass 202 (by kernel_rfl) (by kernel_rfl) ?_
                refine s_pass 203 (by kernel_rfl) (by kernel_rfl) ?_
                refine s_pass 204 (by kernel_rfl) (by kernel_rfl) ?_
                refine s_pass 205 (by kernel_rfl) (by kernel_rfl) ?_
                refine s_pass 206 (by kernel_rfl) (by kernel_rfl) ?_
                refine s_pure 207 (.bool true) (by kernel_rfl) (by kernel_rfl) (fun _ => by kernel_rfl) ?_
                refine s_pure 208 (.bool true) (by kernel_rfl) (by kernel_rfl) (fun _ => by kernel_rfl) ?_
                refine s_pass 209 (by kernel_rfl) (by kernel_rfl) ?_
                refine s_pass 210 (by kernel_rfl) (by kernel_rfl) ?_
                refine s_pass 211 (by kernel_rfl) (by kernel_rfl) ?_
                refine s_pass 212 (by kernel_rfl) (by kernel_rfl) ?_
                refine s_pure 213 (.bool true) (by kernel_rfl) (by kernel_rfl) (fun _ => by kernel_rfl) ?_
                refine s_pure 214 (.bool true) (by kernel_rfl) (by kernel_rfl) (fun _ => by kernel_rfl) ?_
                refine s_pass 215 (by kernel_rfl) (by kernel_rfl) ?_
                refine s_pass 216 (by kernel_rfl) (by kernel_rfl) ?_
                refine s_pure 217 (.bool true) (by kernel_rfl) (by kernel_rfl) (fun _ => by kernel_rfl) ?_
                refine s_pure 218 (.bool true) (by kernel_rfl) (by kernel_rfl) (fun _ => by kernel_rfl) ?_
                refine s_pass 219 (by kernel_rfl) (by kernel_rfl) ?_
                refine s_pass 220 (by kernel_rfl) (by kernel_rfl) ?_
                refine s_pass 221 (by kernel_rfl) (by kernel_rfl) ?_
                refine s_pass 222 (by kernel_rfl) (by kernel_rfl) ?_
                refine s_pass 223 (by kernel_rfl) (by kernel_rfl) ?_
                refine s_pure 224 (.bool true) (by kernel_rfl) (by kernel_rfl) (fun _ => by kernel_rfl) ?_
                refine s_pure 225 (.bool true) (by kernel_rfl) (by kernel_rfl) (fun _ => by kernel_rfl) ?_
                refine s_pass 226 (by kernel_rfl) (by kernel_rfl) ?_
                refine s_pass 227 (by kernel_rfl) (by kernel_rfl) ?_
                refine s_pass 228 (by kernel_rfl) (by kernel_rfl) ?_
                refine s_pure 229 (.bool true) (by kernel_rfl) (by kernel_rfl) (fun _ => by kernel_rfl) ?_
                refine s_pure 230 (.bool true) (by kernel_rfl) (by kernel_rfl) (fun _ => by kernel_rfl) ?_
                refine s_pass 231 (by kernel_rfl) (by kernel_rfl) ?_
                refine s_pass 232 (by kernel_rfl) (by kernel_rfl) ?_
                refine s_pass 233 (by kernel_rfl) (by kernel_rfl) ?_
                refine s_pure 234 (.bool true) (by kernel_rfl) (by kernel_rfl) (fun _ => by kernel_rfl) ?_
                refine s_pure 235 (.bool true) (by kernel_rfl) (by kernel_rfl) (fun _ => by kernel_rfl) ?_
                refine s_pass 236 (by kernel_rfl) (by kernel_rfl) ?_
                refine s_pass 237 (by kernel_rfl) (by kernel_rfl) ?_
                refine s_pass 238 (by kernel_rfl) (by kernel_rfl) ?_
                refine s_pass 239 (by kernel_rfl) (by kernel_rfl) ?_
                refine s_pure 240 (.bool true) (by kernel_rfl) (by kernel_rfl) (fun _ => by kernel_rfl) ?_
                refine s_pure 241 (.bool true) (by kernel_rfl) (by kernel_rfl) (fun _ => by kernel_rfl) ?_
                refine s_pass 242 (by kernel_rfl) (by kernel_rfl) ?_
                refine s_pass 243 (by kernel_rfl) (by kernel_rfl) ?_
                refine s_pass 244 (by kernel_rfl) (by kernel_rfl) ?_
                refine s_pass 245 (by kernel_rfl) (by kernel_rfl) ?_
                refine s_pure 246 (.bool true) (by kernel_rfl) (by kernel_rfl) (fun _ => by kernel_rfl) ?_
                refine s_pure 247 (.bool true) (by kernel_rfl) (by kernel_rfl) (fun _ => by kernel_rfl) ?_
                refine s_pass 248 (by kernel_rfl) (by kernel_rfl) ?_
                refine s_pass 249 (by kernel_rfl) (by kernel_rfl) ?_
                refine s_pass 250 (by kernel_rfl) (by kernel_rfl) ?_
                refine s_pass 251 (by kernel_rfl) (by kernel_rfl) ?_
                refine s_pass 252 (by kernel_rfl) (by kernel_rfl) ?_
                refine s_pass 253 (by kernel_rfl) (by kernel_rfl) ?_
                refine s_pass 254 (by kernel_rfl) (by kernel_rfl) ?_
                refine s_pass 255 (by kernel_rfl) (by kernel_rfl) ?_
                refine s_pure 256 (.bool true) (by kernel_rfl) (by kernel_rfl) (fun _ => by kernel_rfl) ?_
                refine s_pure 257 (.bool true) (by kernel_rfl) (by kernel_rfl) (fun _ => by kernel_rfl) ?_
                refine s_pass 258 (by kernel_rfl) (by kernel_rfl) ?_
                refine s_pass 259 (by kernel_rfl) (by kernel_rfl) ?_
                refine s_pass 260 (by kernel_rfl) (by kernel_rfl) ?_
                refine s_pass 261 (by kernel_rfl) (by kernel_rfl) ?_
                refine s_pass 262 (by kernel_rfl) (by kernel_rfl) ?_
                refine s_pass 263 (by kernel_rfl) (by kernel_rfl) ?_
                refine s_pass 264 (by kernel_rfl) (by kernel_rfl) ?_
                refine s_pass 265 (by kernel_rfl) (by kernel_rfl) ?_
                refine s_pure 266 (.bool true) (by kernel_rfl) (by kernel_rfl) (fun _ => by kernel_rfl) ?_
                refine ops_end ?_
                refine At.env [(0, .int .i64 y1_1), (1, .int .i64 y1_3), (2, .int .i64 y1_5), (3, .int .i64 (wr ((3 : Int) + y1_7))), (5, .slice a2_7 (List.length l2_7) c2_7), (7, .bool dirty), (16, .bool false), (17, .pointer (some ⟨b3_0_0, 0, none⟩)), (19, .pointer (some ⟨b6_3, 0, none⟩)), (26, .bool y20_8.2.1), (27, .pointer (some ⟨b16_3, 0, none⟩)), (30, .pointer (some ⟨b21_6, 0, none⟩)), (31, .bool y21_2.2), (173, .bool e2_173), (266, .bool true)] ⟨by kernel_rfl, by kernel_rfl, by kernel_rfl, by kernel_rfl, by kernel_rfl, by kernel_rfl, by kernel_rfl, by kernel_rfl, by kernel_rfl, by kernel_rfl, by kernel_rfl, by kernel_rfl, by kernel_rfl, by kernel_rfl, by kernel_rfl, trivial⟩ ?_
                refine at_then_normal ?_
                refine at_true (t := true) (x := C5 [1, 1, 1, 1, 1, 1, 1, 1, 1, 1, 1, 1, 1, 1, 1, 0, 1, 0]) (y := C5 [1, 1, 1, 1, 1, 1, 1, 1, 1, 1, 1, 1, 1, 1, 1, 0, 1, 1]) (o := .tmp 266) (by kernel_rfl) (by kernel_rfl) (by kernel_rfl) rfl ?_
                refine at_seq (x := C5 [1, 1, 1, 1, 1, 1, 1, 1, 1, 1, 1, 1, 1, 1, 1, 0, 1, 0, 0]) (y := C5 [1, 1, 1, 1, 1, 1, 1, 1, 1, 1, 1, 1, 1, 1, 1, 0, 1, 0, 1]) (by kernel_rfl) ?_
                refine at_region (id := 24) 1 (by kernel_rfl) (by kernel_rfl) ?_
                refine s_pure 16 (.bool false) (by kernel_rfl) (by kernel_rfl) (fun _ => by kernel_rfl) ?_
                refine ops_end ?_
                refine At.env [(0, .int .i64 y1_1), (1, .int .i64 y1_3), (2, .int .i64 y1_5), (3, .int .i64 (wr ((3 : Int) + y1_7))), (5, .slice a2_7 (List.length l2_7) c2_7), (7, .bool dirty), (16, .bool false), (17, .pointer (some ⟨b3_0_0, 0, none⟩)), (19, .pointer (some ⟨b6_3, 0, none⟩)), (26, .bool y20_8.2.1), (27, .pointer (some ⟨b16_3, 0, none⟩)), (30, .pointer (some ⟨b21_6, 0, none⟩)), (31, .bool y21_2.2), (173, .bool e2_173), (266, .bool true)] ⟨by kernel_rfl, by kernel_rfl, by kernel_rfl, by kernel_rfl, by kernel_rfl, by kernel_rfl, by kernel_rfl, by kernel_rfl, by kernel_rfl, by kernel_rfl, by kernel_rfl, by kernel_rfl, by kernel_rfl, by kernel_rfl, by kernel_rfl, trivial⟩ ?_
                refine at_then_normal ?_
                refine at_ret (by kernel_rfl) ?_
                refine at_then_ret ?_
                obtain rfl := someE H
                refine at_backR [.bool false] (Γ) (rs := [.tmp 16]) (by kernel_rfl) (.cons (.tmp (by kernel_rfl)) .nil) (fun w hw => (Sat.less (.drop .here (.drop .here (.drop .here (.drop .here (.drop .here (.drop .here (.drop .here (.drop .here (.drop .here (.drop .here (.drop .here .refl))))))))))) hw)) ?_
                exact ⟨rfl, rfl⟩
              · replace H := bifF H h17
                refine s_pure 201 (.bool false) (by kernel_rfl) (by kernel_rfl) (run_eq (v := .bool (!y21_2.2)) (fun _ => by kernel_rfl) (congrArg Value.bool h17)) ?_
                refine s_pure 202 (.pointer (some ⟨b21_6, 0, none⟩)) (by kernel_rfl) (by kernel_rfl) (fun _ => by kernel_rfl) ?_
                refine s_pure 203 (.pointer (some ⟨b21_6, 0, none⟩)) (by kernel_rfl) (by kernel_rfl) (fun _ => by kernel_rfl) ?_
                refine s_load 204 (.int .i64 y21_2.1.fwd) (by kernel_rfl) (by kernel_rfl) (load1 (off := 0) (fun _ => by kernel_rfl) (holds_own (.there (.there .here))) (by kernel_rfl)) ?_
                refine s_pure 205 (.int .i64 (wr ((3 : Int) + y1_7))) (by kernel_rfl) (by kernel_rfl) (fun _ => by kernel_rfl) ?_
                refine s_pure 206 (.bool (!(decide (y21_2.1.fwd = (wr ((3 : Int) + y1_7)))))) (by kernel_rfl) (by kernel_rfl) (fun _ => by kernel_rfl) ?_
                refine s_pure 207 (.bool (!(decide (y21_2.1.fwd = (wr ((3 : Int) + y1_7)))))) (by kernel_rfl) (by kernel_rfl) (fun _ => by kernel_rfl) ?_
                rcases Bool.eq_false_or_eq_true (!(decide (y21_2.1.fwd = (wr ((3 : Int) + y1_7))))) with h18 | h18
                · replace H := bifT H h18
                  refine s_pure 208 (.bool true) (by kernel_rfl) (by kernel_rfl) (run_eq (v := .bool (!(decide (y21_2.1.fwd = (wr ((3 : Int) + y1_7)))))) (fun _ => by kernel_rfl) (congrArg Value.bool h18)) ?_
                  refine s_pass 209 (by kernel_rfl) (by kernel_rfl) ?_
                  refine s_pass 210 (by kernel_rfl) (by kernel_rfl) ?_
                  refine s_pass 211 (by kernel_rfl) (by kernel_rfl) ?_
                  refine s_pass 212 (by kernel_rfl) (by kernel_rfl) ?_
                  refine s_pure 213 (.bool true) (by kernel_rfl) (by kernel_rfl) (fun _ => by kernel_rfl) ?_
                  refine s_pure 214 (.bool true) (by kernel_rfl) (by kernel_rfl) (fun _ => by kernel_rfl) ?_
                  refine s_pass 215 (by kernel_rfl) (by kernel_rfl) ?_
                  refine s_pass 216 (by kernel_rfl) (by kernel_rfl) ?_
                  refine s_pure 217 (.bool true) (by kernel_rfl) (by kernel_rfl) (fun _ => by kernel_rfl) ?_
                  refine s_pure 218 (.bool true) (by kernel_rfl) (by kernel_rfl) (fun _ => by kernel_rfl) ?_
                  refine s_pass 219 (by kernel_rfl) (by kernel_rfl) ?_
                  refine s_pass 220 (by kernel_rfl) (by kernel_rfl) ?_
                  refine s_pass 221 (by kernel_rfl) (by kernel_rfl) ?_
                  refine s_pass 222 (by kernel_rfl) (by kernel_rfl) ?_
                  refine s_pass 223 (by kernel_rfl) (by kernel_rfl) ?_
                  refine s_pure 224 (.bool true) (by kernel_rfl) (by kernel_rfl) (fun _ => by kernel_rfl) ?_
                  refine s_pure 225 (.bool true) (by kernel_rfl) (by kernel_rfl) (fun _ => by kernel_rfl) ?_
                  refine s_pass 226 (by kernel_rfl) (by kernel_rfl) ?_
                  refine s_pass 227 (by kernel_rfl) (by kernel_rfl) ?_
                  refine s_pass 228 (by kernel_rfl) (by kernel_rfl) ?_
                  refine s_pure 229 (.bool true) (by kernel_rfl) (by kernel_rfl) (fun _ => by kernel_rfl) ?_
                  refine s_pure 230 (.bool true) (by kernel_rfl) (by kernel_rfl) (fun _ => by kernel_rfl) ?_
                  refine s_pass 231 (by kernel_rfl) (by kernel_rfl) ?_
                  refine s_pass 232 (by kernel_rfl) (by kernel_rfl) ?_
                  refine s_pass 233 (by kernel_rfl) (by kernel_rfl) ?_
                  refine s_pure 234 (.bool true) (by kernel_rfl) (by kernel_rfl) (fun _ => by kernel_rfl) ?_
                  refine s_pure 235 (.bool true) (by kernel_rfl) (by kernel_rfl) (fun _ => by kernel_rfl) ?_
                  refine s_pass 236 (by kernel_rfl) (by kernel_rfl) ?_
                  refine s_pass 237 (by kernel_rfl) (by kernel_rfl) ?_
                  refine s_pass 238 (by kernel_rfl) (by kernel_rfl) ?_
                  refine s_pass 239 (by kernel_rfl) (by kernel_rfl) ?_
                  refine s_pure 240 (.bool true) (by kernel_rfl) (by kernel_rfl) (fun _ => by kernel_rfl) ?_
                  refine s_pure 241 (.bool true) (by kernel_rfl) (by kernel_rfl) (fun _ => by kernel_rfl) ?_
                  refine s_pass 242 (by kernel_rfl) (by kernel_rfl) ?_
                  refine s_pass 243 (by kernel_rfl) (by kernel_rfl) ?_
                  refine s_pass 244 (by kernel_rfl) (by kernel_rfl) ?_
                  refine s_pass 245 (by kernel_rfl) (by kernel_rfl) ?_
                  refine s_pure 246 (.bool true) (by kernel_rfl) (by kernel_rfl) (fun _ => by kernel_rfl) ?_
                  refine s_pure 247 (.bool true) (by kernel_rfl) (by kernel_rfl) (fun _ => by kernel_rfl) ?_
                  refine s_pass 248 (by kernel_rfl) (by kernel_rfl) ?_
                  refine s_pass 249 (by kernel_rfl) (by kernel_rfl) ?_
                  refine s_pass 250 (by kernel_rfl) (by kernel_rfl) ?_
                  refine s_pass 251 (by kernel_rfl) (by kernel_rfl) ?_
                  refine s_pass 252 (by kernel_rfl) (by kernel_rfl) ?_
                  refine s_pass 253 (by kernel_rfl) (by kernel_rfl) ?_
                  refine s_pass 254 (by kernel_rfl) (by kernel_rfl) ?_
                  refine s_pass 255 (by kernel_rfl) (by kernel_rfl) ?_
                  refine s_pure 256 (.bool true) (by kernel_rfl) (by kernel_rfl) (fun _ => by kernel_rfl) ?_
                  refine s_pure 257 (.bool true) (by kernel_rfl) (by kernel_rfl) (fun _ => by kernel_rfl) ?_
                  refine s_pass 258 (by kernel_rfl) (by kernel_rfl) ?_
                  refine s_pass 259 (by kernel_rfl) (by kernel_rfl) ?_
                  refine s_pass 260 (by kernel_rfl) (by kernel_rfl) ?_
                  refine s_pass 261 (by kernel_rfl) (by kernel_rfl) ?_
                  refine s_pass 262 (by kernel_rfl) (by kernel_rfl) ?_
                  refine s_pass 263 (by kernel_rfl) (by kernel_rfl) ?_
                  refine s_pass 264 (by kernel_rfl) (by kernel_rfl) ?_
                  refine s_pass 265 (by kernel_rfl) (by kernel_rfl) ?_
                  refine s_pure 266 (.bool true) (by kernel_rfl) (by kernel_rfl) (fun _ => by kernel_rfl) ?_
                  refine ops_end ?_
                  refine At.env [(0, .int .i64 y1_1), (1, .int .i64 y1_3), (2, .int .i64 y1_5), (3, .int .i64 (wr ((3 : Int) + y1_7))), (5, .slice a2_7 (List.length l2_7) c2_7), (7, .bool dirty), (16, .bool false), (17, .pointer (some ⟨b3_0_0, 0, none⟩)), (19, .pointer (some ⟨b6_3, 0, none⟩)), (26, .bool y20_8.2.1), (27, .pointer (some ⟨b16_3, 0, none⟩)), (30, .pointer (some ⟨b21_6, 0, none⟩)), (31, .bool y21_2.2), (173, .bool e2_173), (266, .bool true)] ⟨by kernel_rfl, by kernel_rfl, by kernel_rfl, by kernel_rfl, by kernel_rfl, by kernel_rfl, by kernel_rfl, by kernel_rfl, by kernel_rfl, by kernel_rfl, by kernel_rfl, by kernel_rfl, by kernel_rfl, by kernel_rfl, by kernel_rfl, trivial⟩ ?_
                  refine at_then_normal ?_
                  refine at_true (t := true) (x := C5 [1, 1, 1, 1, 1, 1, 1, 1, 1, 1, 1, 1, 1, 1, 1, 0, 1, 0]) (y := C5 [1, 1, 1, 1, 1, 1, 1, 1, 1, 1, 1, 1, 1, 1, 1, 0, 1, 1]) (o := .tmp 266) (by kernel_rfl) (by kernel_rfl) (by kernel_rfl) rfl ?_
                  refine at_seq (x := C5 [1, 1, 1, 1, 1, 1, 1, 1, 1, 1, 1, 1, 1, 1, 1, 0, 1, 0, 0]) (y := C5 [1, 1, 1, 1, 1, 1, 1, 1, 1, 1, 1, 1, 1, 1, 1, 0, 1, 0, 1]) (by kernel_rfl) ?_
                  refine at_region (id := 24) 1 (by kernel_rfl) (by kernel_rfl) ?_
                  refine s_pure 16 (.bool false) (by kernel_rfl) (by kernel_rfl) (fun _ => by kernel_rfl) ?_
                  refine ops_end ?_
                  refine At.env [(0, .int .i64 y1_1), (1, .int .i64 y1_3), (2, .int .i64 y1_5), (3, .int .i64 (wr ((3 : Int) + y1_7))), (5, .slice a2_7 (List.length l2_7) c2_7), (7, .bool dirty), (16, .bool false), (17, .pointer (some ⟨b3_0_0, 0, none⟩)), (19, .pointer (some ⟨b6_3, 0, none⟩)), (26, .bool y20_8.2.1), (27, .pointer (some ⟨b16_3, 0, none⟩)), (30, .pointer (some ⟨b21_6, 0, none⟩)), (31, .bool y21_2.2), (173, .bool e2_173), (266, .bool true)] ⟨by kernel_rfl, by kernel_rfl, by kernel_rfl, by kernel_rfl, by kernel_rfl, by kernel_rfl, by kernel_rfl, by kernel_rfl, by kernel_rfl, by kernel_rfl, by kernel_rfl, by kernel_rfl, by kernel_rfl, by kernel_rfl, by kernel_rfl, trivial⟩ ?_
                  refine at_then_normal ?_
                  refine at_ret (by kernel_rfl) ?_
                  refine at_then_ret ?_
                  obtain rfl := someE H
                  refine at_backR [.bool false] (Γ) (rs := [.tmp 16]) (by kernel_rfl) (.cons (.tmp (by kernel_rfl)) .nil) (fun w hw => (Sat.less (.drop .here (.drop .here (.drop .here (.drop .here (.drop .here (.drop .here (.drop .here (.drop .here (.drop .here (.drop .here (.drop .here .refl))))))))))) hw)) ?_
                  exact ⟨rfl, rfl⟩
                · replace H := bifF H h18
                  refine s_pure 208 (.bool false) (by kernel_rfl) (by kernel_rfl) (run_eq (v := .bool (!(decide (y21_2.1.fwd = (wr ((3 : Int) + y1_7)))))) (fun _ => by kernel_rfl) (congrArg Value.bool h18)) ?_
                  refine s_pure 209 (.pointer (some ⟨b21_6, 0, none⟩)) (by kernel_rfl) (by kernel_rfl) (fun _ => by kernel_rfl) ?_
                  refine s_pure 210 (.pointer (some ⟨b21_6, 1, none⟩)) (by kernel_rfl) (by kernel_rfl) (fun _ => by kernel_rfl) ?_
                  refine s_load 211 (.int .i64 y21_2.1.back) (by kernel_rfl) (by kernel_rfl) (load1 (off := 1) (fun _ => by kernel_rfl) (holds_own (.there (.there .here))) (by kernel_rfl)) ?_
                  refine s_pure 212 (.bool (!(decide (y21_2.1.back = ((-1) : Int))))) (by kernel_rfl) (by kernel_rfl) (fun _ => by kernel_rfl) ?_
                  refine s_pure 213 (.bool (!(decide (y21_2.1.back = ((-1) : Int))))) (by kernel_rfl) (by kernel_rfl) (fun _ => by kernel_rfl) ?_
                  rcases Bool.eq_false_or_eq_true (!(decide (y21_2.1.back = ((-1) : Int)))) with h19 | h19
                  · replace H := bifT H h19
                    refine s_pure 214 (.bool true) (by kernel_rfl) (by kernel_rfl) (run_eq (v := .bool (!(decide (y21_2.1.back = ((-1) : Int))))) (fun _ => by kernel_rfl) (congrArg Value.bool h19)) ?_
                    refine s_pass 215 (by kernel_rfl) (by kernel_rfl) ?_
                    refine s_pass 216 (by kernel_rfl) (by kernel_rfl) ?_
                    refine s_pure 217 (.bool true) (by kernel_rfl) (by kernel_rfl) (fun _ => by kernel_rfl) ?_
                    refine s_pure 218 (.bool true) (by kernel_rfl) (by kernel_rfl) (fun _ => by kernel_rfl) ?_
                    refine s_pass 219 (by kernel_rfl) (by kernel_rfl) ?_
                    refine s_pass 220 (by kernel_rfl) (by kernel_rfl) ?_
                    refine s_pass 221 (by kernel_rfl) (by kernel_rfl) ?_
                    refine s_pass 222 (by kernel_rfl) (by kernel_rfl) ?_
                    refine s_pass 223 (by kernel_rfl) (by kernel_rfl) ?_
                    refine s_pure 224 (.bool true) (by kernel_rfl) (by kernel_rfl) (fun _ => by kernel_rfl) ?_
                    refine s_pure 225 (.bool true) (by kernel_rfl) (by kernel_rfl) (fun _ => by kernel_rfl) ?_
                    refine s_pass 226 (by kernel_rfl) (by kernel_rfl) ?_
                    refine s_pass 227 (by kernel_rfl) (by kernel_rfl) ?_
                    refine s_pass 228 (by kernel_rfl) (by kernel_rfl) ?_
                    refine s_pure 229 (.bool true) (by kernel_rfl) (by kernel_rfl) (fun _ => by kernel_rfl) ?_
                    refine s_pure 230 (.bool true) (by kernel_rfl) (by kernel_rfl) (fun _ => by kernel_rfl) ?_
                    refine s_pass 231 (by kernel_rfl) (by kernel_rfl) ?_
                    refine s_pass 232 (by kernel_rfl) (by kernel_rfl) ?_
                    refine s_pass 233 (by kernel_rfl) (by kernel_rfl) ?_
                    refine s_pure 234 (.bool true) (by kernel_rfl) (by kernel_rfl) (fun _ => by kernel_rfl) ?_
                    refine s_pure 235 (.bool true) (by kernel_rfl) (by kernel_rfl) (fun _ => by kernel_rfl) ?_
                    refine s_pass 236 (by kernel_rfl) (by kernel_rfl) ?_
                    refine s_pass 237 (by kernel_rfl) (by kernel_rfl) ?_
                    refine s_pass 238 (by kernel_rfl) (by kernel_rfl) ?_
                    refine s_pass 239 (by kernel_rfl) (by kernel_rfl) ?_
                    refine s_pure 240 (.bool true) (by kernel_rfl) (by kernel_rfl) (fun _ => by kernel_rfl) ?_
                    refine s_pure 241 (.bool true) (by kernel_rfl) (by kernel_rfl) (fun _ => by kernel_rfl) ?_
                    refine s_pass 242 (by kernel_rfl) (by kernel_rfl) ?_
                    refine s_pass 243 (by kernel_rfl) (by kernel_rfl) ?_
                    refine s_pass 244 (by kernel_rfl) (by kernel_rfl) ?_
                    refine s_pass 245 (by kernel_rfl) (by kernel_rfl) ?_
                    refine s_pure 246 (.bool true) (by kernel_rfl) (by kernel_rfl) (fun _ => by kernel_rfl) ?_
                    refine s_pure 247 (.bool true) (by kernel_rfl) (by kernel_rfl) (fun _ => by kernel_rfl) ?_
                    refine s_pass 248 (by kernel_rfl) (by kernel_rfl) ?_
                    refine s_pass 249 (by kernel_rfl) (by kernel_rfl) ?_
                    refine s_pass 250 (by kernel_rfl) (by kernel_rfl) ?_
                    refine s_pass 251 (by kernel_rfl) (by kernel_rfl) ?_
                    refine s_pass 252 (by kernel_rfl) (by kernel_rfl) ?_
                    refine s_pass 253 (by kernel_rfl) (by kernel_rfl) ?_
                    refine s_pass 254 (by kernel_rfl) (by kernel_rfl) ?_
                    refine s_pass 255 (by kernel_rfl) (by kernel_rfl) ?_
                    refine s_pure 256 (.bool true) (by kernel_rfl) (by kernel_rfl) (fun _ => by kernel_rfl) ?_
                    refine s_pure 257 (.bool true) (by kernel_rfl) (by kernel_rfl) (fun _ => by kernel_rfl) ?_
                    refine s_pass 258 (by kernel_rfl) (by kernel_rfl) ?_
                    refine s_pass 259 (by kernel_rfl) (by kernel_rfl) ?_
                    refine s_pass 260 (by kernel_rfl) (by kernel_rfl) ?_
                    refine s_pass 261 (by kernel_rfl) (by kernel_rfl) ?_
                    refine s_pass 262 (by kernel_rfl) (by kernel_rfl) ?_
                    refine s_pass 263 (by kernel_rfl) (by kernel_rfl) ?_
                    refine s_pass 264 (by kernel_rfl) (by kernel_rfl) ?_
                    refine s_pass 265 (by kernel_rfl) (by kernel_rfl) ?_
                    refine s_pure 266 (.bool true) (by kernel_rfl) (by kernel_rfl) (fun _ => by kernel_rfl) ?_
                    refine ops_end ?_
                    refine At.env [(0, .int .i64 y1_1), (1, .int .i64 y1_3), (2, .int .i64 y1_5), (3, .int .i64 (wr ((3 : Int) + y1_7))), (5, .slice a2_7 (List.length l2_7) c2_7), (7, .bool dirty), (16, .bool false), (17, .pointer (some ⟨b3_0_0, 0, none⟩)), (19, .pointer (some ⟨b6_3, 0, none⟩)), (26, .bool y20_8.2.1), (27, .pointer (some ⟨b16_3, 0, none⟩)), (30, .pointer (some ⟨b21_6, 0, none⟩)), (31, .bool y21_2.2), (173, .bool e2_173), (266, .bool true)] ⟨by kernel_rfl, by kernel_rfl, by kernel_rfl, by kernel_rfl, by kernel_rfl, by kernel_rfl, by kernel_rfl, by kernel_rfl, by kernel_rfl, by kernel_rfl, by kernel_rfl, by kernel_rfl, by kernel_rfl, by kernel_rfl, by kernel_rfl, trivial⟩ ?_
                    refine at_then_normal ?_
                    refine at_true (t := true) (x := C5 [1, 1, 1, 1, 1, 1, 1, 1, 1, 1, 1, 1, 1, 1, 1, 0, 1, 0]) (y := C5 [1, 1, 1, 1, 1, 1, 1, 1, 1, 1, 1, 1, 1, 1, 1, 0, 1, 1]) (o := .tmp 266) (by kernel_rfl) (by kernel_rfl) (by kernel_rfl) rfl ?_
                    refine at_seq (x := C5 [1, 1, 1, 1, 1, 1, 1, 1, 1, 1, 1, 1, 1, 1, 1, 0, 1, 0, 0]) (y := C5 [1, 1, 1, 1, 1, 1, 1, 1, 1, 1, 1, 1, 1, 1, 1, 0, 1, 0, 1]) (by kernel_rfl) ?_
                    refine at_region (id := 24) 1 (by kernel_rfl) (by kernel_rfl) ?_
                    refine s_pure 16 (.bool false) (by kernel_rfl) (by kernel_rfl) (fun _ => by kernel_rfl) ?_
                    refine ops_end ?_
                    refine At.env [(0, .int .i64 y1_1), (1, .int .i64 y1_3), (2, .int .i64 y1_5), (3, .int .i64 (wr ((3 : Int) + y1_7))), (5, .slice a2_7 (List.length l2_7) c2_7), (7, .bool dirty), (16, .bool false), (17, .pointer (some ⟨b3_0_0, 0, none⟩)), (19, .pointer (some ⟨b6_3, 0, none⟩)), (26, .bool y20_8.2.1), (27, .pointer (some ⟨b16_3, 0, none⟩)), (30, .pointer (some ⟨b21_6, 0, none⟩)), (31, .bool y21_2.2), (173, .bool e2_173), (266, .bool true)] ⟨by kernel_rfl, by kernel_rfl, by kernel_rfl, by kernel_rfl, by kernel_rfl, by kernel_rfl, by kernel_rfl, by kernel_rfl, by kernel_rfl, by kernel_rfl, by kernel_rfl, by kernel_rfl, by kernel_rfl, by kernel_rfl, by kernel_rfl, trivial⟩ ?_
                    refine at_then_normal ?_
                    refine at_ret (by kernel_rfl) ?_
                    refine at_then_ret ?_
                    obtain rfl := someE H
                    refine at_backR [.bool false] (Γ) (rs := [.tmp 16]) (by kernel_rfl) (.cons (.tmp (by kernel_rfl)) .nil) (fun w hw => (Sat.less (.drop .here (.drop .here (.drop .here (.drop .here (.drop .here (.drop .here (.drop .here (.drop .here (.drop .here (.drop .here (.drop .here .refl))))))))))) hw)) ?_
                    exact ⟨rfl, rfl⟩
                  · replace H := bifF H h19
                    refine s_pure 214 (.bool false) (by kernel_rfl) (by kernel_rfl) (run_eq (v := .bool (!(decide (y21_2.1.back = ((-1) : Int))))) (fun _ => by kernel_rfl) (congrArg Value.bool h19)) ?_
                    refine s_pure 215 (.pointer (some ⟨b21_6, 4, none⟩)) (by kernel_rfl) (by kernel_rfl) (fun _ => by kernel_rfl) ?_
                    refine s_load 216 (.bool y21_2.1.dirty) (by kernel_rfl) (by kernel_rfl) (load1 (off := 4) (fun _ => by kernel_rfl) (holds_own (.there (.there .here))) (by kernel_rfl)) ?_
                    refine s_pure 217 (.bool y21_2.1.dirty) (by kernel_rfl) (by kernel_rfl) (fun _ => by kernel_rfl) ?_
                    rcases Bool.eq_false_or_eq_true (y21_2.1.dirty) with h20 | h20
                    · replace H := bifT H h20
                      refine s_pure 218 (.bool true) (by kernel_rfl) (by kernel_rfl) (run_eq (v := .bool (y21_2.1.dirty)) (fun _ => by kernel_rfl) (congrArg Value.bool h20)) ?_
                      refine s_pass 219 (by kernel_rfl) (by kernel_rfl) ?_
                      refine s_pass 220 (by kernel_rfl) (by kernel_rfl) ?_
                      refine s_pass 221 (by kernel_rfl) (by kernel_rfl) ?_
                      refine s_pass 222 (by kernel_rfl) (by kernel_rfl) ?_
                      refine s_pass 223 (by kernel_rfl) (by kernel_rfl) ?_
                      refine s_pure 224 (.bool true) (by kernel_rfl) (by kernel_rfl) (fun _ => by kernel_rfl) ?_
                      refine s_pure 225 (.bool true) (by kernel_rfl) (by kernel_rfl) (fun _ => by kernel_rfl) ?_
                      refine s_pass 226 (by kernel_rfl) (by kernel_rfl) ?_
                      refine s_pass 227 (by kernel_rfl) (by kernel_rfl) ?_
                      refine s_pass 228 (by kernel_rfl) (by kernel_rfl) ?_
                      refine s_pure 229 (.bool true) (by kernel_rfl) (by kernel_rfl) (fun _ => by kernel_rfl) ?_
                      refine s_pure 230 (.bool true) (by kernel_rfl) (by kernel_rfl) (fun _ => by kernel_rfl) ?_
                      refine s_pass 231 (by kernel_rfl) (by kernel_rfl) ?_
                      refine s_pass 232 (by kernel_rfl) (by kernel_rfl) ?_
                      refine s_pass 233 (by kernel_rfl) (by kernel_rfl) ?_
                      refine s_pure 234 (.bool true) (by kernel_rfl) (by kernel_rfl) (fun _ => by kernel_rfl) ?_
                      refine s_pure 235 (.bool true) (by kernel_rfl) (by kernel_rfl) (fun _ => by kernel_rfl) ?_
                      refine s_pass 236 (by kernel_rfl) (by kernel_rfl) ?_
                      refine s_pass 237 (by kernel_rfl) (by kernel_rfl) ?_
                      refine s_pass 238 (by kernel_rfl) (by kernel_rfl) ?_
                      refine s_pass 239 (by kernel_rfl) (by kernel_rfl) ?_
                      refine s_pure 240 (.bool true) (by kernel_rfl) (by kernel_rfl) (fun _ => by kernel_rfl) ?_
                      refine s_pure 241 (.bool true) (by kernel_rfl) (by kernel_rfl) (fun _ => by kernel_rfl) ?_
                      refine s_pass 242 (by kernel_rfl) (by kernel_rfl) ?_
                      refine s_pass 243 (by kernel_rfl) (by kernel_rfl) ?_
                      refine s_pass 244 (by kernel_rfl) (by kernel_rfl) ?_
                      refine s_pass 245 (by kernel_rfl) (by kernel_rfl) ?_
                      refine s_pure 246 (.bool true) (by kernel_rfl) (by kernel_rfl) (fun _ => by kernel_rfl) ?_
                      refine s_pure 247 (.bool true) (by kernel_rfl) (by kernel_rfl) (fun _ => by kernel_rfl) ?_
                      refine s_pass 248 (by kernel_rfl) (by kernel_rfl) ?_
                      refine s_pass 249 (by kernel_rfl) (by kernel_rfl) ?_
                      refine s_pass 250 (by kernel_rfl) (by kernel_rfl) ?_
                      refine s_pass 251 (by kernel_rfl) (by kernel_rfl) ?_
                      refine s_pass 252 (by kernel_rfl) (by kernel_rfl) ?_
                      refine s_pass 253 (by kernel_rfl) (by kernel_rfl) ?_
                      refine s_pass 254 (by kernel_rfl) (by kernel_rfl) ?_
                      refine s_pass 255 (by kernel_rfl) (by kernel_rfl) ?_
                      refine s_pure 256 (.bool true) (by kernel_rfl) (by kernel_rfl) (fun _ => by kernel_rfl) ?_
                      refine s_pure 257 (.bool true) (by kernel_rfl) (by kernel_rfl) (fun _ => by kernel_rfl) ?_
                      refine s_pass 258 (by kernel_rfl) (by kernel_rfl) ?_
                      refine s_pass 259 (by kernel_rfl) (by kernel_rfl) ?_
                      refine s_pass 260 (by kernel_rfl) (by kernel_rfl) ?_
                      refine s_pass 261 (by kernel_rfl) (by kernel_rfl) ?_
                      refine s_pass 262 (by kernel_rfl) (by kernel_rfl) ?_
                      refine s_pass 263 (by kernel_rfl) (by kernel_rfl) ?_
                      refine s_pass 264 (by kernel_rfl) (by kernel_rfl) ?_
                      refine s_pass 265 (by kernel_rfl) (by kernel_rfl) ?_
                      refine s_pure 266 (.bool true) (by kernel_rfl) (by kernel_rfl) (fun _ => by kernel_rfl) ?_
                      refine ops_end ?_
                      refine At.env [(0, .int .i64 y1_1), (1, .int .i64 y1_3), (2, .int .i64 y1_5), (3, .int .i64 (wr ((3 : Int) + y1_7))), (5, .slice a2_7 (List.length l2_7) c2_7), (7, .bool dirty), (16, .bool false), (17, .pointer (some ⟨b3_0_0, 0, none⟩)), (19, .pointer (some ⟨b6_3, 0, none⟩)), (26, .bool y20_8.2.1), (27, .pointer (some ⟨b16_3, 0, none⟩)), (30, .pointer (some ⟨b21_6, 0, none⟩)), (31, .bool y21_2.2), (173, .bool e2_173), (266, .bool true)] ⟨by kernel_rfl, by kernel_rfl, by kernel_rfl, by kernel_rfl, by kernel_rfl, by kernel_rfl, by kernel_rfl, by kernel_rfl, by kernel_rfl, by kernel_rfl, by kernel_rfl, by kernel_rfl, by kernel_rfl, by kernel_rfl, by kernel_rfl, trivial⟩ ?_
                      refine at_then_normal ?_
                      refine at_true (t := true) (x := C5 [1, 1, 1, 1, 1, 1, 1, 1, 1, 1, 1, 1, 1, 1, 1, 0, 1, 0]) (y := C5 [1, 1, 1, 1, 1, 1, 1, 1, 1, 1, 1, 1, 1, 1, 1, 0, 1, 1]) (o := .tmp 266) (by kernel_rfl) (by kernel_rfl) (by kernel_rfl) rfl ?_
                      refine at_seq (x := C5 [1, 1, 1, 1, 1, 1, 1, 1, 1, 1, 1, 1, 1, 1, 1, 0, 1, 0, 0]) (y := C5 [1, 1, 1, 1, 1, 1, 1, 1, 1, 1, 1, 1, 1, 1, 1, 0, 1, 0, 1]) (by kernel_rfl) ?_
                      refine at_region (id := 24) 1 (by kernel_rfl) (by kernel_rfl) ?_
                      refine s_pure 16 (.bool false) (by kernel_rfl) (by kernel_rfl) (fun _ => by kernel_rfl) ?_
                      refine ops_end ?_
                      refine At.env [(0, .int .i64 y1_1), (1, .int .i64 y1_3), (2, .int .i64 y1_5), (3, .int .i64 (wr ((3 : Int) + y1_7))), (5, .slice a2_7 (List.length l2_7) c2_7), (7, .bool dirty), (16, .bool false), (17, .pointer (some ⟨b3_0_0, 0, none⟩)), (19, .pointer (some ⟨b6_3, 0, none⟩)), (26, .bool y20_8.2.1), (27, .pointer (some ⟨b16_3, 0, none⟩)), (30, .pointer (some ⟨b21_6, 0, none⟩)), (31, .bool y21_2.2), (173, .bool e2_173), (266, .bool true)] ⟨by kernel_rfl, by kernel_rfl, by kernel_rfl, by kernel_rfl, by kernel_rfl, by kernel_rfl, by kernel_rfl, by kernel_rfl, by kernel_rfl, by kernel_rfl, by kernel_rfl, by kernel_rfl, by kernel_rfl, by kernel_rfl, by kernel_rfl, trivial⟩ ?_
                      refine at_then_normal ?_
                      refine at_ret (by kernel_rfl) ?_
                      refine at_then_ret ?_
                      obtain rfl := someE H
                      refine at_backR [.bool false] (Γ) (rs := [.tmp 16]) (by kernel_rfl) (.cons (.tmp (by kernel_rfl)) .nil) (fun w hw => (Sat.less (.drop .here (.drop .here (.drop .here (.drop .here (.drop .here (.drop .here (.drop .here (.drop .here (.drop .here (.drop .here (.drop .here .refl))))))))))) hw)) ?_
                      exact ⟨rfl, rfl⟩
                    · replace H := bifF H h20
                      refine s_pure 218 (.bool false) (by kernel_rfl) (by kernel_rfl) (run_eq (v := .bool (y21_2.1.dirty)) (fun _ => by kernel_rfl) (congrArg Value.bool h20)) ?_
                      refine s_pure 219 (.pointer (some ⟨b21_6, 5, none⟩)) (by kernel_rfl) (by kernel_rfl) (fun _ => by kernel_rfl) ?_
                      refine s_load 220 (.slice a21_2_00 (List.length y21_2.1.data) c21_2_00) (by kernel_rfl) (by kernel_rfl) (load1 (off := 5) (fun _ => by kernel_rfl) (holds_own (.there (.there .here))) (by kernel_rfl)) ?_
                      refine s_pure 221 (.slice a2_7 (List.length l2_7) c2_7) (by kernel_rfl) (by kernel_rfl) (fun _ => by kernel_rfl) ?_
                      obtain ⟨y23_27, hy23_27, H⟩ := bindE H
                      refine s_call 222 27 #[.slice a21_2_00 (List.length y21_2.1.data) c21_2_00, .slice a2_7 (List.length l2_7) c2_7] (by kernel_rfl) (by kernel_rfl) (fun _ => by kernel_rfl) (KSameF_tr a21_2_00 c21_2_00 y21_2.1.data a2_7 c2_7 l2_7 (RowsA.reads (k := 1) (.there (.there (.there .here)))) (RowsA.reads (k := 1) (.there (.there (.there (.there (.there (.there (.there (.there (.there (.there .here))))))))))) y23_27 hy23_27) ?_
                      rintro _ _ ⟨rfl, rfl⟩
                      refine s_pure 223 (.bool !y23_27) (by kernel_rfl) (by kernel_rfl) (fun _ => by kernel_rfl) ?_
                      refine s_pure 224 (.bool !y23_27) (by kernel_rfl) (by kernel_rfl) (fun _ => by kernel_rfl) ?_
                      rcases Bool.eq_false_or_eq_true (!y23_27) with h21 | h21
                      · replace H := bifT H h21
                        refine s_pure 225 (.bool true) (by kernel_rfl) (by kernel_rfl) (run_eq (v := .bool (!y23_27)) (fun _ => by kernel_rfl) (congrArg Value.bool h21)) ?_
                        refine s_pass 226 (by kernel_rfl) (by kernel_rfl) ?_
                        refine s_pass 227 (by kernel_rfl) (by kernel_rfl) ?_
                        refine s_pass 228 (by kernel_rfl) (by kernel_rfl) ?_
                        refine s_pure 229 (.bool true) (by kernel_rfl) (by kernel_rfl) (fun _ => by kernel_rfl) ?_
                        refine s_pure 230 (.bool true) (by kernel_rfl) (by kernel_rfl) (fun _ => by kernel_rfl) ?_
                        refine s_pass 231 (by kernel_rfl) (by kernel_rfl) ?_
                        refine s_pass 232 (by kernel_rfl) (by kernel_rfl) ?_
                        refine s_pass 233 (by kernel_rfl) (by kernel_rfl) ?_
                        refine s_pure 234 (.bool true) (by kernel_rfl) (by kernel_rfl) (fun _ => by kernel_rfl) ?_
                        refine s_pure 235 (.bool true) (by kernel_rfl) (by kernel_rfl) (fun _ => by kernel_rfl) ?_
                        refine s_pass 236 (by kernel_rfl) (by kernel_rfl) ?_
                        refine s_pass 237 (by kernel_rfl) (by kernel_rfl) ?_
                        refine s_pass 238 (by kernel_rfl) (by kernel_rfl) ?_
                        refine s_pass 239 (by kernel_rfl) (by kernel_rfl) ?_
                        refine s_pure 240 (.bool true) (by kernel_rfl) (by kernel_rfl) (fun _ => by kernel_rfl) ?_
                        refine s_pure 241 (.bool true) (by kernel_rfl) (by kernel_rfl) (fun _ => by kernel_rfl) ?_
                        refine s_pass 242 (by kernel_rfl) (by kernel_rfl) ?_
                        refine s_pass 243 (by kernel_rfl) (by kernel_rfl) ?_
                        refine s_pass 244 (by kernel_rfl) (by kernel_rfl) ?_
                        refine s_pass 245 (by kernel_rfl) (by kernel_rfl) ?_
                        refine s_pure 246 (.bool true) (by kernel_rfl) (by kernel_rfl) (fun _ => by kernel_rfl) ?_
                        refine s_pure 247 (.bool true) (by kernel_rfl) (by kernel_rfl) (fun _ => by kernel_rfl) ?_
                        refine s_pass 248 (by kernel_rfl) (by kernel_rfl) ?_
                        refine s_pass 249 (by kernel_rfl) (by kernel_rfl) ?_
                        refine s_pass 250 (by kernel_rfl) (by kernel_rfl) ?_
                        refine s_pass 251 (by kernel_rfl) (by kernel_rfl) ?_
                        refine s_pass 252 (by kernel_rfl) (by kernel_rfl) ?_
                        refine s_pass 253 (by kernel_rfl) (by kernel_rfl) ?_
                        refine s_pass 254 (by kernel_rfl) (by kernel_rfl) ?_
                        refine s_pass 255 (by kernel_rfl) (by kernel_rfl) ?_
                        refine s_pure 256 (.bool true) (by kernel_rfl) (by kernel_rfl) (fun _ => by kernel_rfl) ?_
                        refine s_pure 257 (.bool true) (by kernel_rfl) (by kernel_rfl) (fun _ => by kernel_rfl) ?_
                        refine s_pass 258 (by kernel_rfl) (by kernel_rfl) ?_
                        refine s_pass 259 (by kernel_rfl) (by kernel_rfl) ?_
                        refine s_pass 260 (by kernel_rfl) (by kernel_rfl) ?_
                        refine s_pass 261 (by kernel_rfl) (by kernel_rfl) ?_
                        refine s_pass 262 (by kernel_rfl) (by kernel_rfl) ?_
                        refine s_pass 263 (by kernel_rfl) (by kernel_rfl) ?_
                        refine s_pass 264 (by kernel_rfl) (by kernel_rfl) ?_
                        refine s_pass 265 (by kernel_rfl) (by kernel_rfl) ?_
                        refine s_pure 266 (.bool true) (by kernel_rfl) (by kernel_rfl) (fun _ => by kernel_rfl) ?_
                        refine ops_end ?_
                        refine At.env [(0, .int .i64 y1_1), (1, .int .i64 y1_3), (2, .int .i64 y1_5), (3, .int .i64 (wr ((3 : Int) + y1_7))), (5, .slice a2_7 (List.length l2_7) c2_7), (7, .bool dirty), (16, .bool false), (17, .pointer (some ⟨b3_0_0, 0, none⟩)), (19, .pointer (some ⟨b6_3, 0, none⟩)), (26, .bool y20_8.2.1), (27, .pointer (some ⟨b16_3, 0, none⟩)), (30, .pointer (some ⟨b21_6, 0, none⟩)), (31, .bool y21_2.2), (173, .bool e2_173), (266, .bool true)] ⟨by kernel_rfl, by kernel_rfl, by kernel_rfl, by kernel_rfl, by kernel_rfl, by kernel_rfl, by kernel_rfl, by kernel_rfl, by kernel_rfl, by kernel_rfl, by kernel_rfl, by kernel_rfl, by kernel_rfl, by kernel_rfl, by kernel_rfl, trivial⟩ ?_
                        refine at_then_normal ?_
                        refine at_true (t := true) (x := C5 [1, 1, 1, 1, 1, 1, 1, 1, 1, 1, 1, 1, 1, 1, 1, 0, 1, 0]) (y := C5 [1, 1, 1, 1, 1, 1, 1, 1, 1, 1, 1, 1, 1, 1, 1, 0, 1, 1]) (o := .tmp 266) (by kernel_rfl) (by kernel_rfl) (by kernel_rfl) rfl ?_
                        refine at_seq (x := C5 [1, 1, 1, 1, 1, 1, 1, 1, 1, 1, 1, 1, 1, 1, 1, 0, 1, 0, 0]) (y := C5 [1, 1, 1, 1, 1, 1, 1, 1, 1, 1, 1, 1, 1, 1, 1, 0, 1, 0, 1]) (by kernel_rfl) ?_
                        refine at_region (id := 24) 1 (by kernel_rfl) (by kernel_rfl) ?_
                        refine s_pure 16 (.bool false) (by kernel_rfl) (by kernel_rfl) (fun _ => by kernel_rfl) ?_
                        refine ops_end ?_
                        refine At.env [(0, .int .i64 y1_1), (1, .int .i64 y1_3), (2, .int .i64 y1_5), (3, .int .i64 (wr ((3 : Int) + y1_7))), (5, .slice a2_7 (List.length l2_7) c2_7), (7, .bool dirty), (16, .bool false), (17, .pointer (some ⟨b3_0_0, 0, none⟩)), (19, .pointer (some ⟨b6_3, 0, none⟩)), (26, .bool y20_8.2.1), (27, .pointer (some ⟨b16_3, 0, none⟩)), (30, .pointer (some ⟨b21_6, 0, none⟩)), (31, .bool y21_2.2), (173, .bool e2_173), (266, .bool true)] ⟨by kernel_rfl, by kernel_rfl, by kernel_rfl, by kernel_rfl, by kernel_rfl, by kernel_rfl, by kernel_rfl, by kernel_rfl, by kernel_rfl, by kernel_rfl, by kernel_rfl, by kernel_rfl, by kernel_rfl, by kernel_rfl, by kernel_rfl, trivial⟩ ?_
                        refine at_then_normal ?_
                        refine at_ret (by kernel_rfl) ?_
                        refine at_then_ret ?_
                        obtain rfl := someE H
                        refine at_backR [.bool false] (Γ) (rs := [.tmp 16]) (by kernel_rfl) (.cons (.tmp (by kernel_rfl)) .nil) (fun w hw => (Sat.less (.drop .here (.drop .here (.drop .here (.drop .here (.drop .here (.drop .here (.drop .here (.drop .here (.drop .here (.drop .here (.drop .here .refl))))))))))) hw)) ?_
                        exact ⟨rfl, rfl⟩
                      · replace H := bifF H h21
                        refine s_pure 225 (.bool false) (by kernel_rfl) (by kernel_rfl) (run_eq (v := .bool (!y23_27)) (fun _ => by kernel_rfl) (congrArg Value.bool h21)) ?_
                        refine s_pure 226 (.pointer (some ⟨b16_3, 0, none⟩)) (by kernel_rfl) (by kernel_rfl) (fun _ => by kernel_rfl) ?_
                        refine s_load 227 (.int .i64 y22_2.kind) (by kernel_rfl) (by kernel_rfl) (load1 (off := 0) (fun _ => by kernel_rfl) (holds_own .here) (by kernel_rfl)) ?_
                        refine s_pure 228 (.bool (!(decide (y22_2.kind = (2 : Int))))) (by kernel_rfl) (by kernel_rfl) (fun _ => by kernel_rfl) ?_
                        refine s_pure 229 (.bool (!(decide (y22_2.kind = (2 : Int))))) (by kernel_rfl) (by kernel_rfl) (fun _ => by kernel_rfl) ?_
                        rcases Bool.eq_false_or_eq_true (!(decide (y22_2.kind = (2 : Int)))) with h22 | h22
                        · replace H := bifT H h22
                          refine s_pure 230 (.bool true) (by kernel_rfl) (by kernel_rfl) (run_eq (v := .bool (!(decide (y22_2.kind = (2 : Int))))) (fun _ => by kernel_rfl) (congrArg Value.bool h22)) ?_
                          refine s_pass 231 (by kernel_rfl) (by kernel_rfl) ?_
                          refine s_pass 232 (by kernel_rfl) (by kernel_rfl) ?_
                          refine s_pass 233 (by kernel_rfl) (by kernel_rfl) ?_
                          refine s_pure 234 (.bool true) (by kernel_rfl) (by kernel_rfl) (fun _ => by kernel_rfl) ?_
                          refine s_pure 235 (.bool true) (by kernel_rfl) (by kernel_rfl) (fun _ => by kernel_rfl) ?_
                          refine s_pass 236 (by kernel_rfl) (by kernel_rfl) ?_
                          refine s_pass 237 (by kernel_rfl) (by kernel_rfl) ?_
                          refine s_pass 238 (by kernel_rfl) (by kernel_rfl) ?_
                          refine s_pass 239 (by kernel_rfl) (by kernel_rfl) ?_
                          refine s_pure 240 (.bool true) (by kernel_rfl) (by kernel_rfl) (fun _ => by kernel_rfl) ?_
                          refine s_pure 241 (.bool true) (by kernel_rfl) (by kernel_rfl) (fun _ => by kernel_rfl) ?_
                          refine s_pass 242 (by kernel_rfl) (by kernel_rfl) ?_
                          refine s_pass 243 (by kernel_rfl) (by kernel_rfl) ?_
                          refine s_pass 244 (by kernel_rfl) (by kernel_rfl) ?_
                          refine s_pass 245 (by kernel_rfl) (by kernel_rfl) ?_
                          refine s_pure 246 (.bool true) (by kernel_rfl) (by kernel_rfl) (fun _ => by kernel_rfl) ?_
                          refine s_pure 247 (.bool true) (by kernel_rfl) (by kernel_rfl) (fun _ => by kernel_rfl) ?_
                          refine s_pass 248 (by kernel_rfl) (by kernel_rfl) ?_
                          refine s_pass 249 (by kernel_rfl) (by kernel_rfl) ?_
                          refine s_pass 250 (by kernel_rfl) (by kernel_rfl) ?_
                          refine s_pass 251 (by kernel_rfl) (by kernel_rfl) ?_
                          refine s_pass 252 (by kernel_rfl) (by kernel_rfl) ?_
                          refine s_pass 253 (by kernel_rfl) (by kernel_rfl) ?_
                          refine s_pass 254 (by kernel_rfl) (by kernel_rfl) ?_
                          refine s_pass 255 (by kernel_rfl) (by kernel_rfl) ?_
                          refine s_pure 256 (.bool true) (by kernel_rfl) (by kernel_rfl) (fun _ => by kernel_rfl) ?_
                          refine s_pure 257 (.bool true) (by kernel_rfl) (by kernel_rfl) (fun _ => by kernel_rfl) ?_
                          refine s_pass 258 (by kernel_rfl) (by kernel_rfl) ?_
                          refine s_pass 259 (by kernel_rfl) (by kernel_rfl) ?_
                          refine s_pass 260 (by kernel_rfl) (by kernel_rfl) ?_
                          refine s_pass 261 (by kernel_rfl) (by kernel_rfl) ?_
                          refine s_pass 262 (by kernel_rfl) (by kernel_rfl) ?_
                          refine s_pass 263 (by kernel_rfl) (by kernel_rfl) ?_
                          refine s_pass 264 (by kernel_rfl) (by kernel_rfl) ?_
                          refine s_pass 265 (by kernel_rfl) (by kernel_rfl) ?_
                          refine s_pure 266 (.bool true) (by kernel_rfl) (by kernel_rfl) (fun _ => by kernel_rfl) ?_
                          refine ops_end ?_
                          refine At.env [(0, .int .i64 y1_1), (1, .int .i64 y1_3), (2, .int .i64 y1_5), (3, .int .i64 (wr ((3 : Int) + y1_7))), (5, .slice a2_7 (List.length l2_7) c2_7), (7, .bool dirty), (16, .bool false), (17, .pointer (some ⟨b3_0_0, 0, none⟩)), (19, .pointer (some ⟨b6_3, 0, none⟩)), (26, .bool y20_8.2.1), (27, .pointer (some ⟨b16_3, 0, none⟩)), (30, .pointer (some ⟨b21_6, 0, none⟩)), (31, .bool y21_2.2), (173, .bool e2_173), (266, .bool true)] ⟨by kernel_rfl, by kernel_rfl, by kernel_rfl, by kernel_rfl, by kernel_rfl, by kernel_rfl, by kernel_rfl, by kernel_rfl, by kernel_rfl, by kernel_rfl, by kernel_rfl, by kernel_rfl, by kernel_rfl, by kernel_rfl, by kernel_rfl, trivial⟩ ?_
                          refine at_then_normal ?_
                          refine at_true (t := true) (x := C5 [1, 1, 1, 1, 1, 1, 1, 1, 1, 1, 1, 1, 1, 1, 1, 0, 1, 0]) (y := C5 [1, 1, 1, 1, 1, 1, 1, 1, 1, 1, 1, 1, 1, 1, 1, 0, 1, 1]) (o := .tmp 266) (by kernel_rfl) (by kernel_rfl) (by kernel_rfl) rfl ?_
                          refine at_seq (x := C5 [1, 1, 1, 1, 1, 1, 1, 1, 1, 1, 1, 1, 1, 1, 1, 0, 1, 0, 0]) (y := C5 [1, 1, 1, 1, 1, 1, 1, 1, 1, 1, 1, 1, 1, 1, 1, 0, 1, 0, 1]) (by kernel_rfl) ?_
                          refine at_region (id := 24) 1 (by kernel_rfl) (by kernel_rfl) ?_
                          refine s_pure 16 (.bool false) (by kernel_rfl) (by kernel_rfl) (fun _ => by kernel_rfl) ?_
                          refine ops_end ?_
                          refine At.env [(0, .int .i64 y1_1), (1, .int .i64 y1_3), (2, .int .i64 y1_5), (3, .int .i64 (wr ((3 : Int) + y1_7))), (5, .slice a2_7 (List.length l2_7) c2_7), (7, .bool dirty), (16, .bool false), (17, .pointer (some ⟨b3_0_0, 0, none⟩)), (19, .pointer (some ⟨b6_3, 0, none⟩)), (26, .bool y20_8.2.1), (27, .pointer (some ⟨b16_3, 0, none⟩)), (30, .pointer (some ⟨b21_6, 0, none⟩)), (31, .bool y21_2.2), (173, .bool e2_173), (266, .bool true)] ⟨by kernel_rfl, by kernel_rfl, by kernel_rfl, by kernel_rfl, by kernel_rfl, by kernel_rfl, by kernel_rfl, by kernel_rfl, by kernel_rfl, by kernel_rfl, by kernel_rfl, by kernel_rfl, by kernel_rfl, by kernel_rfl, by kernel_rfl, trivial⟩ ?_
                          refine at_then_normal ?_
                          refine at_ret (by kernel_rfl) ?_
                          refine at_then_ret ?_
                          obtain rfl := someE H
                          refine at_backR [.bool false] (Γ) (rs := [.tmp 16]) (by kernel_rfl) (.cons (.tmp (by kernel_rfl)) .nil) (fun w hw => (Sat.less (.drop .here (.drop .here (.drop .here (.drop .here (.drop .here (.drop .here (.drop .here (.drop .here (.drop .here (.drop .here (.drop .here .refl))))))))))) hw)) ?_
                          exact ⟨rfl, rfl⟩
                        · replace H := bifF H h22
                          refine s_pure 230 (.bool false) (by kernel_rfl) (by kernel_rfl) (run_eq (v := .bool (!(decide (y22_2.kind = (2 : Int))))) (fun _ => by kernel_rfl) (congrArg Value.bool h22)) ?_
                          refine s_pure 231 (.pointer (some ⟨b16_3, 6, none⟩)) (by kernel_rfl) (by kernel_rfl) (fun _ => by kernel_rfl) ?_
                          refine s_load 232 (.int .i64 y22_2.state) (by kernel_rfl) (by kernel_rfl) (load1 (off := 6) (fun _ => by kernel_rfl) (holds_own .here) (by kernel_rfl)) ?_
                          refine s_pure 233 (.bool (!(decide (y22_2.state = (1 : Int))))) (by kernel_rfl) (by kernel_rfl) (fun _ => by kernel_rfl) ?_
                          refine s_pure 234 (.bool (!(decide (y22_2.state = (1 : Int))))) (by kernel_rfl) (by kernel_rfl) (fun _ => by kernel_rfl) ?_
                          rcases Bool.eq_false_or_eq_true (!(decide (y22_2.state = (1 : Int)))) with h23 | h23
                          · replace H := bifT H h23
                            refine s_pure 235 (.bool true) (by kernel_rfl) (by kernel_rfl) (run_eq (v := .bool (!(decide (y22_2.state = (1 : Int))))) (fun _ => by kernel_rfl) (congrArg Value.bool h23)) ?_
                            refine s_pass 236 (by kernel_rfl) (by kernel_rfl) ?_
                            refine s_pass 237 (by kernel_rfl) (by kernel_rfl) ?_
                            refine s_pass 238 (by kernel_rfl) (by kernel_rfl) ?_
                            refine s_pass 239 (by kernel_rfl) (by kernel_rfl) ?_
                            refine s_pure 240 (.bool true) (by kernel_rfl) (by kernel_rfl) (fun _ => by kernel_rfl) ?_
                            refine s_pure 241 (.bool true) (by kernel_rfl) (by kernel_rfl) (fun _ => by kernel_rfl) ?_
                            refine s_pass 242 (by kernel_rfl) (by kernel_rfl) ?_
                            refine s_pass 243 (by kernel_rfl) (by kernel_rfl) ?_
                            refine s_pass 244 (by kernel_rfl) (by kernel_rfl) ?_
                            refine s_pass 245 (by kernel_rfl) (by kernel_rfl) ?_
                            refine s_pure 246 (.bool true) (by kernel_rfl) (by kernel_rfl) (fun _ => by kernel_rfl) ?_
                            refine s_pure 247 (.bool true) (by kernel_rfl) (by kernel_rfl) (fun _ => by kernel_rfl) ?_
                            refine s_pass 248 (by kernel_rfl) (by kernel_rfl) ?_
                            refine s_pass 249 (by kernel_rfl) (by kernel_rfl) ?_
                            refine s_pass 250 (by kernel_rfl) (by kernel_rfl) ?_
                            refine s_pass 251 (by kernel_rfl) (by kernel_rfl) ?_
                            refine s_pass 252 (by kernel_rfl) (by kernel_rfl) ?_
                            refine s_pass 253 (by kernel_rfl) (by kernel_rfl) ?_
                            refine s_pass 254 (by kernel_rfl) (by kernel_rfl) ?_
                            refine s_pass 255 (by kernel_rfl) (by kernel_rfl) ?_
                            refine s_pure 256 (.bool true) (by kernel_rfl) (by kernel_rfl) (fun _ => by kernel_rfl) ?_
                            refine s_pure 257 (.bool true) (by kernel_rfl) (by kernel_rfl) (fun _ => by kernel_rfl) ?_
                            refine s_pass 258 (by kernel_rfl) (by kernel_rfl) ?_
                            refine s_pass 259 (by kernel_rfl) (by kernel_rfl) ?_
                            refine s_pass 260 (by kernel_rfl) (by kernel_rfl) ?_
                            refine s_pass 261 (by kernel_rfl) (by kernel_rfl) ?_
                            refine s_pass 262 (by kernel_rfl) (by kernel_rfl) ?_
                            refine s_pass 263 (by kernel_rfl) (by kernel_rfl) ?_
                            refine s_pass 264 (by kernel_rfl) (by kernel_rfl) ?_
                            refine s_pass 265 (by kernel_rfl) (by kernel_rfl) ?_
                            refine s_pure 266 (.bool true) (by kernel_rfl) (by kernel_rfl) (fun _ => by kernel_rfl) ?_
                            refine ops_end ?_
                            refine At.env [(0, .int .i64 y1_1), (1, .int .i64 y1_3), (2, .int .i64 y1_5), (3, .int .i64 (wr ((3 : Int) + y1_7))), (5, .slice a2_7 (List.length l2_7) c2_7), (7, .bool dirty), (16, .bool false), (17, .pointer (some ⟨b3_0_0, 0, none⟩)), (19, .pointer (some ⟨b6_3, 0, none⟩)), (26, .bool y20_8.2.1), (27, .pointer (some ⟨b16_3, 0, none⟩)), (30, .pointer (some ⟨b21_6, 0, none⟩)), (31, .bool y21_2.2), (173, .bool e2_173), (266, .bool true)] ⟨by kernel_rfl, by kernel_rfl, by kernel_rfl, by kernel_rfl, by kernel_rfl, by kernel_rfl, by kernel_rfl, by kernel_rfl, by kernel_rfl, by kernel_rfl, by kernel_rfl, by kernel_rfl, by kernel_rfl, by kernel_rfl, by kernel_rfl, trivial⟩ ?_
                            refine at_then_normal ?_
                            refine at_true (t := true) (x := C5 [1, 1, 1, 1, 1, 1, 1, 1, 1, 1, 1, 1, 1, 1, 1, 0, 1, 0]) (y := C5 [1, 1, 1, 1, 1, 1, 1, 1, 1, 1, 1, 1, 1, 1, 1, 0, 1, 1]) (o := .tmp 266) (by kernel_rfl) (by kernel_rfl) (by kernel_rfl) rfl ?_
                            refine at_seq (x := C5 [1, 1, 1, 1, 1, 1, 1, 1, 1, 1, 1, 1, 1, 1, 1, 0, 1, 0, 0]) (y := C5 [1, 1, 1, 1, 1, 1, 1, 1, 1, 1, 1, 1, 1, 1, 1, 0, 1, 0, 1]) (by kernel_rfl) ?_
                            refine at_region (id := 24) 1 (by kernel_rfl) (by kernel_rfl) ?_
                            refine s_pure 16 (.bool false) (by kernel_rfl) (by kernel_rfl) (fun _ => by kernel_rfl) ?_
                            refine ops_end ?_
                            refine At.env [(0, .int .i64 y1_1), (1, .int .i64 y1_3), (2, .int .i64 y1_5), (3, .int .i64 (wr ((3 : Int) + y1_7))), (5, .slice a2_7 (List.length l2_7) c2_7), (7, .bool dirty), (16, .bool false), (17, .pointer (some ⟨b3_0_0, 0, none⟩)), (19, .pointer (some ⟨b6_3, 0, none⟩)), (26, .bool y20_8.2.1), (27, .pointer (some ⟨b16_3, 0, none⟩)), (30, .pointer (some ⟨b21_6, 0, none⟩)), (31, .bool y21_2.2), (173, .bool e2_173), (266, .bool true)] ⟨by kernel_rfl, by kernel_rfl, by kernel_rfl, by kernel_rfl, by kernel_rfl, by kernel_rfl, by kernel_rfl, by kernel_rfl, by kernel_rfl, by kernel_rfl, by kernel_rfl, by kernel_rfl, by kernel_rfl, by kernel_rfl, by kernel_rfl, trivial⟩ ?_
                            refine at_then_normal ?_
                            refine at_ret (by kernel_rfl) ?_
                            refine at_then_ret ?_
                            obtain rfl := someE H
                            refine at_backR [.bool false] (Γ) (rs := [.tmp 16]) (by kernel_rfl) (.cons (.tmp (by kernel_rfl)) .nil) (fun w hw => (Sat.less (.drop .here (.drop .here (.drop .here (.drop .here (.drop .here (.drop .here (.drop .here (.drop .here (.drop .here (.drop .here (.drop .here .refl))))))))))) hw)) ?_
                            exact ⟨rfl, rfl⟩
                          · replace H := bifF H h23
                            refine s_pure 235 (.bool false) (by kernel_rfl) (by kernel_rfl) (run_eq (v := .bool (!(decide (y22_2.state = (1 : Int))))) (fun _ => by kernel_rfl) (congrArg Value.bool h23)) ?_
                            refine s_pure 236 (.pointer (some ⟨b16_3, 5, none⟩)) (by kernel_rfl) (by kernel_rfl) (fun _ => by kernel_rfl) ?_
                            refine s_load 237 (.int .i64 y22_2.ptr) (by kernel_rfl) (by kernel_rfl) (load1 (off := 5) (fun _ => by kernel_rfl) (holds_own .here) (by kernel_rfl)) ?_
                            refine s_pure 238 (.int .i64 y1_5) (by kernel_rfl) (by kernel_rfl) (fun _ => by kernel_rfl) ?_
                            refine s_pure 239 (.bool (!(decide (y22_2.ptr = y1_5)))) (by kernel_rfl) (by kernel_rfl) (fun _ => by kernel_rfl) ?_
                            refine s_pure 240 (.bool (!(decide (y22_2.ptr = y1_5)))) (by kernel_rfl) (by kernel_rfl) (fun _ => by kernel_rfl) ?_
                            rcases Bool.eq_false_or_eq_true (!(decide (y22_2.ptr = y1_5))) with h24 | h24
                            · replace H := bifT H h24
                              refine s_pure 241 (.bool true) (by kernel_rfl) (by kernel_rfl) (run_eq (v := .bool (!(decide (y22_2.ptr = y1_5)))) (fun _ => by kernel_rfl) (congrArg Value.bool h24)) ?_
                              refine s_pass 242 (by kernel_rfl) (by kernel_rfl) ?_
                              refine s_pass 243 (by kernel_rfl) (by kernel_rfl) ?_
                              refine s_pass 244 (by kernel_rfl) (by kernel_rfl) ?_
                              refine s_pass 245 (by kernel_rfl) (by kernel_rfl) ?_
                              refine s_pure 246 (.bool true) (by kernel_rfl) (by kernel_rfl) (fun _ => by kernel_rfl) ?_
                              refine s_pure 247 (.bool true) (by kernel_rfl) (by kernel_rfl) (fun _ => by kernel_rfl) ?_
                              refine s_pass 248 (by kernel_rfl) (by kernel_rfl) ?_
                              refine s_pass 249 (by kernel_rfl) (by kernel_rfl) ?_
                              refine s_pass 250 (by kernel_rfl) (by kernel_rfl) ?_
                              refine s_pass 251 (by kernel_rfl) (by kernel_rfl) ?_
                              refine s_pass 252 (by kernel_rfl) (by kernel_rfl) ?_
                              refine s_pass 253 (by kernel_rfl) (by kernel_rfl) ?_
                              refine s_pass 254 (by kernel_rfl) (by kernel_rfl) ?_
                              refine s_pass 255 (by kernel_rfl) (by kernel_rfl) ?_
                              refine s_pure 256 (.bool true) (by kernel_rfl) (by kernel_rfl) (fun _ => by kernel_rfl) ?_
                              refine s_pure 257 (.bool true) (by kernel_rfl) (by kernel_rfl) (fun _ => by kernel_rfl) ?_
                              refine s_pass 258 (by kernel_rfl) (by kernel_rfl) ?_
                              refine s_pass 259 (by kernel_rfl) (by kernel_rfl) ?_
                              refine s_pass 260 (by kernel_rfl) (by kernel_rfl) ?_
                              refine s_pass 261 (by kernel_rfl) (by kernel_rfl) ?_
                              refine s_pass 262 (by kernel_rfl) (by kernel_rfl) ?_
                              refine s_pass 263 (by kernel_rfl) (by kernel_rfl) ?_
                              refine s_pass 264 (by kernel_rfl) (by kernel_rfl) ?_
                              refine s_pass 265 (by kernel_rfl) (by kernel_rfl) ?_
                              refine s_pure 266 (.bool true) (by kernel_rfl) (by kernel_rfl) (fun _ => by kernel_rfl) ?_
                              refine ops_end ?_
                              refine At.env [(0, .int .i64 y1_1), (1, .int .i64 y1_3), (2, .int .i64 y1_5), (3, .int .i64 (wr ((3 : Int) + y1_7))), (5, .slice a2_7 (List.length l2_7) c2_7), (7, .bool dirty), (16, .bool false), (17, .pointer (some ⟨b3_0_0, 0, none⟩)), (19, .pointer (some ⟨b6_3, 0, none⟩)), (26, .bool y20_8.2.1), (27, .pointer (some ⟨b16_3, 0, none⟩)), (30, .pointer (some ⟨b21_6, 0, none⟩)), (31, .bool y21_2.2), (173, .bool e2_173), (266, .bool true)] ⟨by kernel_rfl, by kernel_rfl, by kernel_rfl, by kernel_rfl, by kernel_rfl, by kernel_rfl, by kernel_rfl, by kernel_rfl, by kernel_rfl, by kernel_rfl, by kernel_rfl, by kernel_rfl, by kernel_rfl, by kernel_rfl, by kernel_rfl, trivial⟩ ?_
                              refine at_then_normal ?_
                              refine at_true (t := true) (x := C5 [1, 1, 1, 1, 1, 1, 1, 1, 1, 1, 1, 1, 1, 1, 1, 0, 1, 0]) (y := C5 [1, 1, 1, 1, 1, 1, 1, 1, 1, 1, 1, 1, 1, 1, 1, 0, 1, 1]) (o := .tmp 266) (by kernel_rfl) (by kernel_rfl) (by kernel_rfl) rfl ?_
                              refine at_seq (x := C5 [1, 1, 1, 1, 1, 1, 1, 1, 1, 1, 1, 1, 1, 1, 1, 0, 1, 0, 0]) (y := C5 [1, 1, 1, 1, 1, 1, 1, 1, 1, 1, 1, 1, 1, 1, 1, 0, 1, 0, 1]) (by kernel_rfl) ?_
                              refine at_region (id := 24) 1 (by kernel_rfl) (by kernel_rfl) ?_
                              refine s_pure 16 (.bool false) (by kernel_rfl) (by kernel_rfl) (fun _ => by kernel_rfl) ?_
                              refine ops_end ?_
                              refine At.env [(0, .int .i64 y1_1), (1, .int .i64 y1_3), (2, .int .i64 y1_5), (3, .int .i64 (wr ((3 : Int) + y1_7))), (5, .slice a2_7 (List.length l2_7) c2_7), (7, .bool dirty), (16, .bool false), (17, .pointer (some ⟨b3_0_0, 0, none⟩)), (19, .pointer (some ⟨b6_3, 0, none⟩)), (26, .bool y20_8.2.1), (27, .pointer (some ⟨b16_3, 0, none⟩)), (30, .pointer (some ⟨b21_6, 0, none⟩)), (31, .bool y21_2.2), (173, .bool e2_173), (266, .bool true)] ⟨by kernel_rfl, by kernel_rfl, by kernel_rfl, by kernel_rfl, by kernel_rfl, by kernel_rfl, by kernel_rfl, by kernel_rfl, by kernel_rfl, by kernel_rfl, by kernel_rfl, by kernel_rfl, by kernel_rfl, by kernel_rfl, by kernel_rfl, trivial⟩ ?_
                              refine at_then_normal ?_
                              refine at_ret (by kernel_rfl) ?_
                              refine at_then_ret ?_
                              obtain rfl := someE H
                              refine at_backR [.bool false] (Γ) (rs := [.tmp 16]) (by kernel_rfl) (.cons (.tmp (by kernel_rfl)) .nil) (fun w hw => (Sat.less (.drop .here (.drop .here (.drop .here (.drop .here (.drop .here (.drop .here (.drop .here (.drop .here (.drop .here (.drop .here (.drop .here .refl))))))))))) hw)) ?_
                              exact ⟨rfl, rfl⟩
                            · replace H := bifF H h24
                              refine s_pure 241 (.bool false) (by kernel_rfl) (by kernel_rfl) (run_eq (v := .bool (!(decide (y22_2.ptr = y1_5)))) (fun _ => by kernel_rfl) (congrArg Value.bool h24)) ?_
                              refine s_pure 242 (.pointer (some ⟨b16_3, 7, none⟩)) (by kernel_rfl) (by kernel_rfl) (fun _ => by kernel_rfl) ?_
                              refine s_load 243 (.bool y22_2.flag) (by kernel_rfl) (by kernel_rfl) (load1 (off := 7) (fun _ => by kernel_rfl) (holds_own .here) (by kernel_rfl)) ?_
                              refine s_pure 244 (.bool dirty) (by kernel_rfl) (by kernel_rfl) (fun _ => by kernel_rfl) ?_
                              refine s_pure 245 (.bool (!(y22_2.flag == dirty))) (by kernel_rfl) (by kernel_rfl) (fun _ => by kernel_rfl) ?_
                              refine s_pure 246 (.bool (!(y22_2.flag == dirty))) (by kernel_rfl) (by kernel_rfl) (fun _ => by kernel_rfl) ?_
                              rcases Bool.eq_false_or_eq_true (!(y22_2.flag == dirty)) with h25 | h25
                              · replace H := bifT H h25
                                refine s_pure 247 (.bool true) (by kernel_rfl) (by kernel_rfl) (run_eq (v := .bool (!(y22_2.flag == dirty))) (fun _ => by kernel_rfl) (congrArg Value.bool h25)) ?_
                                refine s_pass 248 (by kernel_rfl) (by kernel_rfl) ?_
                                refine s_pass 249 (by kernel_rfl) (by kernel_rfl) ?_
                                refine s_pass 250 (by kernel_rfl) (by kernel_rfl) ?_
                                refine s_pass 251 (by kernel_rfl) (by kernel_rfl) ?_
                                refine s_pass 252 (by kernel_rfl) (by kernel_rfl) ?_
                                refine s_pass 253 (by kernel_rfl) (by kernel_rfl) ?_
                                refine s_pass 254 (by kernel_rfl) (by kernel_rfl) ?_
                                refine s_pass 255 (by kernel_rfl) (by kernel_rfl) ?_
                                refine s_pure 256 (.bool true) (by kernel_rfl) (by kernel_rfl) (fun _ => by kernel_rfl) ?_
                                refine s_pure 257 (.bool true) (by kernel_rfl) (by kernel_rfl) (fun _ => by kernel_rfl) ?_
                                refine s_pass 258 (by kernel_rfl) (by kernel_rfl) ?_
                                refine s_pass 259 (by kernel_rfl) (by kernel_rfl) ?_
                                refine s_pass 260 (by kernel_rfl) (by kernel_rfl) ?_
                                refine s_pass 261 (by kernel_rfl) (by kernel_rfl) ?_
                                refine s_pass 262 (by kernel_rfl) (by kernel_rfl) ?_
                                refine s_pass 263 (by kernel_rfl) (by kernel_rfl) ?_
                                refine s_pass 264 (by kernel_rfl) (by kernel_rfl) ?_
                                refine s_pass 265 (by kernel_rfl) (by kernel_rfl) ?_
                                refine s_pure 266 (.bool true) (by kernel_rfl) (by kernel_rfl) (fun _ => by kernel_rfl) ?_
                                refine ops_end ?_
                                refine At.env [(0, .int .i64 y1_1), (1, .int .i64 y1_3), (2, .int .i64 y1_5), (3, .int .i64 (wr ((3 : Int) + y1_7))), (5, .slice a2_7 (List.length l2_7) c2_7), (7, .bool dirty), (16, .bool false), (17, .pointer (some ⟨b3_0_0, 0, none⟩)), (19, .pointer (some ⟨b6_3, 0, none⟩)), (26, .bool y20_8.2.1), (27, .pointer (some ⟨b16_3, 0, none⟩)), (30, .pointer (some ⟨b21_6, 0, none⟩)), (31, .bool y21_2.2), (173, .bool e2_173), (266, .bool true)] ⟨by kernel_rfl, by kernel_rfl, by kernel_rfl, by kernel_rfl, by kernel_rfl, by kernel_rfl, by kernel_rfl, by kernel_rfl, by kernel_rfl, by kernel_rfl, by kernel_rfl, by kernel_rfl, by kernel_rfl, by kernel_rfl, by kernel_rfl, trivial⟩ ?_
                                refine at_then_normal ?_
                                refine at_true (t := true) (x := C5 [1, 1, 1, 1, 1, 1, 1, 1, 1, 1, 1, 1, 1, 1, 1, 0, 1, 0]) (y := C5 [1, 1, 1, 1, 1, 1, 1, 1, 1, 1, 1, 1, 1, 1, 1, 0, 1, 1]) (o := .tmp 266) (by kernel_rfl) (by kernel_rfl) (by kernel_rfl) rfl ?_
                                refine at_seq (x := C5 [1, 1, 1, 1, 1, 1, 1, 1, 1, 1, 1, 1, 1, 1, 1, 0, 1, 0, 0]) (y := C5 [1, 1, 1, 1, 1, 1, 1, 1, 1, 1, 1, 1, 1, 1, 1, 0, 1, 0, 1]) (by kernel_rfl) ?_
                                refine at_region (id := 24) 1 (by kernel_rfl) (by kernel_rfl) ?_
                                refine s_pure 16 (.bool false) (by kernel_rfl) (by kernel_rfl) (fun _ => by kernel_rfl) ?_
                                refine ops_end ?_
                                refine At.env [(0, .int .i64 y1_1), (1, .int .i64 y1_3), (2, .int .i64 y1_5), (3, .int .i64 (wr ((3 : Int) + y1_7))), (5, .slice a2_7 (List.length l2_7) c2_7), (7, .bool dirty), (16, .bool false), (17, .pointer (some ⟨b3_0_0, 0, none⟩)), (19, .pointer (some ⟨b6_3, 0, none⟩)), (26, .bool y20_8.2.1), (27, .pointer (some ⟨b16_3, 0, none⟩)), (30, .pointer (some ⟨b21_6, 0, none⟩)), (31, .bool y21_2.2), (173, .bool e2_173), (266, .bool true)] ⟨by kernel_rfl, by kernel_rfl, by kernel_rfl, by kernel_rfl, by kernel_rfl, by kernel_rfl, by kernel_rfl, by kernel_rfl, by kernel_rfl, by kernel_rfl, by kernel_rfl, by kernel_rfl, by kernel_rfl, by kernel_rfl, by kernel_rfl, trivial⟩ ?_
                                refine at_then_normal ?_
                                refine at_ret (by kernel_rfl) ?_
                                refine at_then_ret ?_
                                obtain rfl := someE H
                                refine at_backR [.bool false] (Γ) (rs := [.tmp 16]) (by kernel_rfl) (.cons (.tmp (by kernel_rfl)) .nil) (fun w hw => (Sat.less (.drop .here (.drop .here (.drop .here (.drop .here (.drop .here (.drop .here (.drop .here (.drop .here (.drop .here (.drop .here (.drop .here .refl))))))))))) hw)) ?_
                                exact ⟨rfl, rfl⟩
                              · replace H := bifF H h25
                                refine s_pure 247 (.bool false) (by kernel_rfl) (by kernel_rfl) (run_eq (v := .bool (!(y22_2.flag == dirty))) (fun _ => by kernel_rfl) (congrArg Value.bool h25)) ?_
                                refine s_pure 248 (.bool dirty) (by kernel_rfl) (by kernel_rfl) (fun _ => by kernel_rfl) ?_
                                rcases Bool.eq_false_or_eq_true (dirty) with h26 | h26
                                · replace H := bifT H h26
                                  refine s_pure 249 (.bool true) (by kernel_rfl) (by kernel_rfl) (run_eq (v := .bool (dirty)) (fun _ => by kernel_rfl) (congrArg Value.bool h26)) ?_
                                  refine s_pure 250 (.pointer (some ⟨b16_3, 8, none⟩)) (by kernel_rfl) (by kernel_rfl) (fun _ => by kernel_rfl) ?_
                                  refine s_load 251 (.slice a22_2_00 (List.length y22_2.data) c22_2_00) (by kernel_rfl) (by kernel_rfl) (load1 (off := 8) (fun _ => by kernel_rfl) (holds_own .here) (by kernel_rfl)) ?_
                                  refine s_pure 252 (.slice a2_7 (List.length l2_7) c2_7) (by kernel_rfl) (by kernel_rfl) (fun _ => by kernel_rfl) ?_
                                  obtain ⟨y23_58, hy23_58, H⟩ := bindE H
                                  refine s_call 253 27 #[.slice a22_2_00 (List.length y22_2.data) c22_2_00, .slice a2_7 (List.length l2_7) c2_7] (by kernel_rfl) (by kernel_rfl) (fun _ => by kernel_rfl) (KSameF_tr a22_2_00 c22_2_00 y22_2.data a2_7 c2_7 l2_7 (RowsA.reads (k := 1) (.there .here)) (RowsA.reads (k := 1) (.there (.there (.there (.there (.there (.there (.there (.there (.there (.there .here))))))))))) y23_58 hy23_58) ?_
                                  rintro _ _ ⟨rfl, rfl⟩
                                  refine s_pure 254 (.bool !y23_58) (by kernel_rfl) (by kernel_rfl) (fun _ => by kernel_rfl) ?_
                                  refine s_pure 255 (.bool !y23_58) (by kernel_rfl) (by kernel_rfl) (fun _ => by kernel_rfl) ?_
                                  refine s_pure 256 (.bool !y23_58) (by kernel_rfl) (by kernel_rfl) (fun _ => by kernel_rfl) ?_
                                  rcases Bool.eq_false_or_eq_true (!y23_58) with h27 | h27
                                  · replace H := bifT H h27
                                    refine s_pure 257 (.bool true) (by kernel_rfl) (by kernel_rfl) (run_eq (v := .bool (!y23_58)) (fun _ => by kernel_rfl) (congrArg Value.bool h27)) ?_
                                    refine s_pass 258 (by kernel_rfl) (by kernel_rfl) ?_
                                    refine s_pass 259 (by kernel_rfl) (by kernel_rfl) ?_
                                    refine s_pass 260 (by kernel_rfl) (by kernel_rfl) ?_
                                    refine s_pass 261 (by kernel_rfl) (by kernel_rfl) ?_
                                    refine s_pass 262 (by kernel_rfl) (by kernel_rfl) ?_
                                    refine s_pass 263 (by kernel_rfl) (by kernel_rfl) ?_
                                    refine s_pass 264 (by kernel_rfl) (by kernel_rfl) ?_
                                    refine s_pass 265 (by kernel_rfl) (by kernel_rfl) ?_
                                    refine s_pure 266 (.bool true) (by kernel_rfl) (by kernel_rfl) (fun _ => by kernel_rfl) ?_
                                    refine ops_end ?_
                                    refine At.env [(0, .int .i64 y1_1), (1, .int .i64 y1_3), (2, .int .i64 y1_5), (3, .int .i64 (wr ((3 : Int) + y1_7))), (5, .slice a2_7 (List.length l2_7) c2_7), (7, .bool dirty), (16, .bool false), (17, .pointer (some ⟨b3_0_0, 0, none⟩)), (19, .pointer (some ⟨b6_3, 0, none⟩)), (26, .bool y20_8.2.1), (27, .pointer (some ⟨b16_3, 0, none⟩)), (30, .pointer (some ⟨b21_6, 0, none⟩)), (31, .bool y21_2.2), (173, .bool e2_173), (266, .bool true)] ⟨by kernel_rfl, by kernel_rfl, by kernel_rfl, by kernel_rfl, by kernel_rfl, by kernel_rfl, by kernel_rfl, by kernel_rfl, by kernel_rfl, by kernel_rfl, by kernel_rfl, by kernel_rfl, by kernel_rfl, by kernel_rfl, by kernel_rfl, trivial⟩ ?_
                                    refine at_then_normal ?_
                                    refine at_true (t := true) (x := C5 [1, 1, 1, 1, 1, 1, 1, 1, 1, 1, 1, 1, 1, 1, 1, 0, 1, 0]) (y := C5 [1, 1, 1, 1, 1, 1, 1, 1, 1, 1, 1, 1, 1, 1, 1, 0, 1, 1]) (o := .tmp 266) (by kernel_rfl) (by kernel_rfl) (by kernel_rfl) rfl ?_
                                    refine at_seq (x := C5 [1, 1, 1, 1, 1, 1, 1, 1, 1, 1, 1, 1, 1, 1, 1, 0, 1, 0, 0]) (y := C5 [1, 1, 1, 1, 1, 1, 1, 1, 1, 1, 1, 1, 1, 1, 1, 0, 1, 0, 1]) (by kernel_rfl) ?_
                                    refine at_region (id := 24) 1 (by kernel_rfl) (by kernel_rfl) ?_
                                    refine s_pure 16 (.bool false) (by kernel_rfl) (by kernel_rfl) (fun _ => by kernel_rfl) ?_
                                    refine ops_end ?_
                                    refine At.env [(0, .int .i64 y1_1), (1, .int .i64 y1_3), (2, .int .i64 y1_5), (3, .int .i64 (wr ((3 : Int) + y1_7))), (5, .slice a2_7 (List.length l2_7) c2_7), (7, .bool dirty), (16, .bool false), (17, .pointer (some ⟨b3_0_0, 0, none⟩)), (19, .pointer (some ⟨b6_3, 0, none⟩)), (26, .bool y20_8.2.1), (27, .pointer (some ⟨b16_3, 0, none⟩)), (30, .pointer (some ⟨b21_6, 0, none⟩)), (31, .bool y21_2.2), (173, .bool e2_173), (266, .bool true)] ⟨by kernel_rfl, by kernel_rfl, by kernel_rfl, by kernel_rfl, by kernel_rfl, by kernel_rfl, by kernel_rfl, by kernel_rfl, by kernel_rfl, by kernel_rfl, by kernel_rfl, by kernel_rfl, by kernel_rfl, by kernel_rfl, by kernel_rfl, trivial⟩ ?_
                                    refine at_then_normal ?_
                                    refine at_ret (by kernel_rfl) ?_
                                    refine at_then_ret ?_
                                    obtain rfl := someE H
                                    refine at_backR [.bool false] (Γ) (rs := [.tmp 16]) (by kernel_rfl) (.cons (.tmp (by kernel_rfl)) .nil) (fun w hw => (Sat.less (.drop .here (.drop .here (.drop .here (.drop .here (.drop .here (.drop .here (.drop .here (.drop .here (.drop .here (.drop .here (.drop .here .refl))))))))))) hw)) ?_
                                    exact ⟨rfl, rfl⟩
                                  · replace H := bifF H h27
                                    refine s_pure 257 (.bool false) (by kernel_rfl) (by kernel_rfl) (run_eq (v := .bool (!y23_58)) (fun _ => by kernel_rfl) (congrArg Value.bool h27)) ?_
                                    refine s_pure 258 (.bool dirty) (by kernel_rfl) (by kernel_rfl) (fun _ => by kernel_rfl) ?_
                                    refine s_pure 259 (.bool !dirty) (by kernel_rfl) (by kernel_rfl) (fun _ => by kernel_rfl) ?_
                                    rcases Bool.eq_false_or_eq_true (!dirty) with h28 | h28
                                    · replace H := bifT H h28
                                      refine s_pure 260 (.bool true) (by kernel_rfl) (by kernel_rfl) (run_eq (v := .bool (!dirty)) (fun _ => by kernel_rfl) (congrArg Value.bool h28)) ?_
                                      refine s_pure 261 (.pointer (some ⟨b16_3, 8, none⟩)) (by kernel_rfl) (by kernel_rfl) (fun _ => by kernel_rfl) ?_
                                      refine s_load 262 (.slice a22_2_00 (List.length y22_2.data) c22_2_00) (by kernel_rfl) (by kernel_rfl) (load1 (off := 8) (fun _ => by kernel_rfl) (holds_own .here) (by kernel_rfl)) ?_
                                      refine s_pure 263 (.int .i64 (((List.length y22_2.data) : Nat) : Int)) (by kernel_rfl) (by kernel_rfl) (fun _ => by kernel_rfl) ?_
                                      refine s_pure 264 (.bool (!(decide ((((List.length y22_2.data) : Nat) : Int) = (0 : Int))))) (by kernel_rfl) (by kernel_rfl) (fun _ => by kernel_rfl) ?_
                                      refine s_pure 265 (.bool (!(decide ((((List.length y22_2.data) : Nat) : Int) = (0 : Int))))) (by kernel_rfl) (by kernel_rfl) (fun _ => by kernel_rfl) ?_
                                      refine s_pure 266 (.bool (!(decide ((((List.length y22_2.data) : Nat) : Int) = (0 : Int))))) (by kernel_rfl) (by kernel_rfl) (fun _ => by kernel_rfl) ?_
                                      refine ops_end ?_
                                      refine At.env [(0, .int .i64 y1_1), (1, .int .i64 y1_3), (2, .int .i64 y1_5), (3, .int .i64 (wr ((3 : Int) + y1_7))), (5, .slice a2_7 (List.length l2_7) c2_7), (7, .bool dirty), (16, .bool false), (17, .pointer (some ⟨b3_0_0, 0, none⟩)), (19, .pointer (some ⟨b6_3, 0, none⟩)), (26, .bool y20_8.2.1), (27, .pointer (some ⟨b16_3, 0, none⟩)), (30, .pointer (some ⟨b21_6, 0, none⟩)), (31, .bool y21_2.2), (173, .bool e2_173), (266, .bool (!(decide ((((List.length y22_2.data) : Nat) : Int) = (0 : Int)))))] ⟨by kernel_rfl, by kernel_rfl, by kernel_rfl, by kernel_rfl, by kernel_rfl, by kernel_rfl, by kernel_rfl, by kernel_rfl, by kernel_rfl, by kernel_rfl, by kernel_rfl, by kernel_rfl, by kernel_rfl, by kernel_rfl, by kernel_rfl, trivial⟩ ?_
                                      refine at_then_normal ?_
                                      rcases Bool.eq_false_or_eq_true (!(decide ((((List.length y22_2.data) : Nat) : Int) = (0 : Int)))) with h29 | h29
                                      · replace H := bifT H h29
                                        refine at_true (t := !(decide ((((List.length y22_2.data) : Nat) : Int) = (0 : Int)))) (x := C5 [1, 1, 1, 1, 1, 1, 1, 1, 1, 1, 1, 1, 1, 1, 1, 0, 1, 0]) (y := C5 [1, 1, 1, 1, 1, 1, 1, 1, 1, 1, 1, 1, 1, 1, 1, 0, 1, 1]) (o := .tmp 266) (by kernel_rfl) (by kernel_rfl) (by kernel_rfl) h29 ?_
                                        refine at_seq (x := C5 [1, 1, 1, 1, 1, 1, 1, 1, 1, 1, 1, 1, 1, 1, 1, 0, 1, 0, 0]) (y := C5 [1, 1, 1, 1, 1, 1, 1, 1, 1, 1, 1, 1, 1, 1, 1, 0, 1, 0, 1]) (by kernel_rfl) ?_
                                        refine at_region (id := 24) 1 (by kernel_rfl) (by kernel_rfl) ?_
                                        refine s_pure 16 (.bool false) (by kernel_rfl) (by kernel_rfl) (fun _ => by kernel_rfl) ?_
                                        refine ops_end ?_
                                        refine At.env [(0, .int .i64 y1_1), (1, .int .i64 y1_3), (2, .int .i64 y1_5), (3, .int .i64 (wr ((3 : Int) + y1_7))), (5, .slice a2_7 (List.length l2_7) c2_7), (7, .bool dirty), (16, .bool false), (17, .pointer (some ⟨b3_0_0, 0, none⟩)), (19, .pointer (some ⟨b6_3, 0, none⟩)), (26, .bool y20_8.2.1), (27, .pointer (some ⟨b16_3, 0, none⟩)), (30, .pointer (some ⟨b21_6, 0, none⟩)), (31, .bool y21_2.2), (173, .bool e2_173), (266, .bool (!(decide ((((List.length y22_2.data) : Nat) : Int) = (0 : Int)))))] ⟨by kernel_rfl, by kernel_rfl, by kernel_rfl, by kernel_rfl, by kernel_rfl, by kernel_rfl, by kernel_rfl, by kernel_rfl, by kernel_rfl, by kernel_rfl, by kernel_rfl, by kernel_rfl, by kernel_rfl, by kernel_rfl, by kernel_rfl, trivial⟩ ?_
                                        refine at_then_normal ?_
                                        refine at_ret (by kernel_rfl) ?_
                                        refine at_then_ret ?_
                                        obtain rfl := someE H
                                        refine at_backR [.bool false] (Γ) (rs := [.tmp 16]) (by kernel_rfl) (.cons (.tmp (by kernel_rfl)) .nil) (fun w hw => (Sat.less (.drop .here (.drop .here (.drop .here (.drop .here (.drop .here (.drop .here (.drop .here (.drop .here (.drop .here (.drop .here (.drop .here .refl))))))))))) hw)) ?_
                                        exact ⟨rfl, rfl⟩
                                      · replace H := bifF H h29
                                        refine at_false (t := !(decide ((((List.length y22_2.data) : Nat) : Int) = (0 : Int)))) (x := C5 [1, 1, 1, 1, 1, 1, 1, 1, 1, 1, 1, 1, 1, 1, 1, 0, 1, 0]) (y := C5 [1, 1, 1, 1, 1, 1, 1, 1, 1, 1, 1, 1, 1, 1, 1, 0, 1, 1]) (o := .tmp 266) (by kernel_rfl) (by kernel_rfl) (by kernel_rfl) h29 ?_
                                        refine at_skip (by kernel_rfl) ?_
                                        refine at_round_normal ?_
                                        exact at_join_mk [(0, .int .i64 y1_1), (1, .int .i64 y1_3), (2, .int .i64 y1_5), (16, .bool false), (17, .pointer (some ⟨b3_0_0, 0, none⟩)), (19, .pointer (some ⟨b6_3, 0, none⟩)), (26, .bool y20_8.2.1)] ((CacheA b3_0_0 y20_8.2.2) :: (Asn.own b6_3 (.cells #[.int .i64 y20_8.1.kind, .int .i64 y20_8.1.line, .int .i64 y20_8.1.id, .int .i64 y20_8.1.step, .int .i64 y20_8.1.state, .int .i64 y20_8.1.head, .slice a20_8_00 (List.length y20_8.1.data) c20_8_00, .int .i64 y20_8.1.next, .int .i64 y20_8.1.told] 35 (0, 0))) :: (ImmI a20_8_00 y20_8.1.data) :: (RCacheA b3_0_1 y3_0.2) :: Γ) ⟨by kernel_rfl, by kernel_rfl, by kernel_rfl, by kernel_rfl, by kernel_rfl, by kernel_rfl, by kernel_rfl, trivial⟩ (fun w hw => (Sat.less (.take (.there (.there (.there (.there .here)))) (.take (.there (.there (.there (.there .here)))) (.take (.there (.there (.there (.there .here)))) (.take (.there (.there (.there (.there (.there (.there .here)))))) (.drop .here (.drop .here (.drop .here (.drop .here (.drop .here (.drop .here (.drop .here .refl))))))))))) hw)) ⟨H, rfl, rfl⟩
                                    · replace H := bifF H h28
                                      refine s_pure 260 (.bool false) (by kernel_rfl) (by kernel_rfl) (run_eq (v := .bool (!dirty)) (fun _ => by kernel_rfl) (congrArg Value.bool h28)) ?_
                                      refine s_pass 261 (by kernel_rfl) (by kernel_rfl) ?_
                                      refine s_pass 262 (by kernel_rfl) (by kernel_rfl) ?_
                                      refine s_pass 263 (by kernel_rfl) (by kernel_rfl) ?_
                                      refine s_pass 264 (by kernel_rfl) (by kernel_rfl) ?_
                                      refine s_pure 265 (.bool false) (by kernel_rfl) (by kernel_rfl) (fun _ => by kernel_rfl) ?_
                                      refine s_pure 266 (.bool false) (by kernel_rfl) (by kernel_rfl) (fun _ => by kernel_rfl) ?_
                                      refine ops_end ?_
                                      refine At.env [(0, .int .i64 y1_1), (1, .int .i64 y1_3), (2, .int .i64 y1_5), (3, .int .i64 (wr ((3 : Int) + y1_7))), (5, .slice a2_7 (List.length l2_7) c2_7), (7, .bool dirty), (16, .bool false), (17, .pointer (some ⟨b3_0_0, 0, none⟩)), (19, .pointer (some ⟨b6_3, 0, none⟩)), (26, .bool y20_8.2.1), (27, .pointer (some ⟨b16_3, 0, none⟩)), (30, .pointer (some ⟨b21_6, 0, none⟩)), (31, .bool y21_2.2), (173, .bool e2_173), (266, .bool false)] ⟨by kernel_rfl, by kernel_rfl, by kernel_rfl, by kernel_rfl, by kernel_rfl, by kernel_rfl, by kernel_rfl, by kernel_rfl, by kernel_rfl, by kernel_rfl, by kernel_rfl, by kernel_rfl, by kernel_rfl, by kernel_rfl, by kernel_rfl, trivial⟩ ?_
                                      refine at_then_normal ?_
                                      refine at_false (t := false) (x := C5 [1, 1, 1, 1, 1, 1, 1, 1, 1, 1, 1, 1, 1, 1, 1, 0, 1, 0]) (y := C5 [1, 1, 1, 1, 1, 1, 1, 1, 1, 1, 1, 1, 1, 1, 1, 0, 1, 1]) (o := .tmp 266) (by kernel_rfl) (by kernel_rfl) (by kernel_rfl) rfl ?_
                                      refine at_skip (by kernel_rfl) ?_
                                      refine at_round_normal ?_
                                      exact at_join_mk [(0, .int .i64 y1_1), (1, .int .i64 y1_3), (2, .int .i64 y1_5), (16, .bool false), (17, .pointer (some ⟨b3_0_0, 0, none⟩)), (19, .pointer (some ⟨b6_3, 0, none⟩)), (26, .bool y20_8.2.1)] ((CacheA b3_0_0 y20_8.2.2) :: (Asn.own b6_3 (.cells #[.int .i64 y20_8.1.kind, .int .i64 y20_8.1.line, .int .i64 y20_8.1.id, .int .i64 y20_8.1.step, .int .i64 y20_8.1.state, .int .i64 y20_8.1.head, .slice a20_8_00 (List.length y20_8.1.data) c20_8_00, .int .i64 y20_8.1.next, .int .i64 y20_8.1.told] 35 (0, 0))) :: (ImmI a20_8_00 y20_8.1.data) :: (RCacheA b3_0_1 y3_0.2) :: Γ) ⟨by kernel_rfl, by kernel_rfl, by kernel_rfl, by kernel_rfl, by kernel_rfl, by kernel_rfl, by kernel_rfl, trivial⟩ (fun w hw => (Sat.less (.take (.there (.there (.there (.there .here)))) (.take (.there (.there (.there (.there .here)))) (.take (.there (.there (.there (.there .here)))) (.take (.there (.there (.there (.there (.there (.there .here)))))) (.drop .here (.drop .here (.drop .here (.drop .here (.drop .here (.drop .here (.drop .here .refl))))))))))) hw)) ⟨H, rfl, rfl⟩
                                · replace H := bifF H h26
                                  refine s_pure 249 (.bool false) (by kernel_rfl) (by kernel_rfl) (run_eq (v := .bool (dirty)) (fun _ => by kernel_rfl) (congrArg Value.bool h26)) ?_
                                  refine s_pass 250 (by kernel_rfl) (by kernel_rfl) ?_
                                  refine s_pass 251 (by kernel_rfl) (by kernel_rfl) ?_
                                  refine s_pass 252 (by kernel_rfl) (by kernel_rfl) ?_
                                  refine s_pass 253 (by kernel_rfl) (by kernel_rfl) ?_
                                  refine s_pass 254 (by kernel_rfl) (by kernel_rfl) ?_
                                  refine s_pure 255 (.bool false) (by kernel_rfl) (by kernel_rfl) (fun _ => by kernel_rfl) ?_
                                  refine s_pure 256 (.bool false) (by kernel_rfl) (by kernel_rfl) (fun _ => by kernel_rfl) ?_
                                  refine s_pure 257 (.bool false) (by kernel_rfl) (by kernel_rfl) (fun _ => by kernel_rfl) ?_
                                  refine s_pure 258 (.bool dirty) (by kernel_rfl) (by kernel_rfl) (fun _ => by kernel_rfl) ?_
                                  refine s_pure 259 (.bool !dirty) (by kernel_rfl) (by kernel_rfl) (fun _ => by kernel_rfl) ?_
                                  rcases Bool.eq_false_or_eq_true (!dirty) with h30 | h30
                                  · replace H := bifT H h30
                                    refine s_pure 260 (.bool true) (by kernel_rfl) (by kernel_rfl) (run_eq (v := .bool (!dirty)) (fun _ => by kernel_rfl) (congrArg Value.bool h30)) ?_
                                    refine s_pure 261 (.pointer (some ⟨b16_3, 8, none⟩)) (by kernel_rfl) (by kernel_rfl) (fun _ => by kernel_rfl) ?_
                                    refine s_load 262 (.slice a22_2_00 (List.length y22_2.data) c22_2_00) (by kernel_rfl) (by kernel_rfl) (load1 (off := 8) (fun _ => by kernel_rfl) (holds_own .here) (by kernel_rfl)) ?_
                                    refine s_pure 263 (.int .i64 (((List.length y22_2.data) : Nat) : Int)) (by kernel_rfl) (by kernel_rfl) (fun _ => by kernel_rfl) ?_
                                    refine s_pure 264 (.bool (!(decide ((((List.length y22_2.data) : Nat) : Int) = (0 : Int))))) (by kernel_rfl) (by kernel_rfl) (fun _ => by kernel_rfl) ?_
                                    refine s_pure 265 (.bool (!(decide ((((List.length y22_2.data) : Nat) : Int) = (0 : Int))))) (by kernel_rfl) (by kernel_rfl) (fun _ => by kernel_rfl) ?_
                                    refine s_pure 266 (.bool (!(decide ((((List.length y22_2.data) : Nat) : Int) = (0 : Int))))) (by kernel_rfl) (by kernel_rfl) (fun _ => by kernel_rfl) ?_
                                    refine ops_end ?_
                                    refine At.env [(0, .int .i64 y1_1), (1, .int .i64 y1_3), (2, .int .i64 y1_5), (3, .int .i64 (wr ((3 : Int) + y1_7))), (5, .slice a2_7 (List.length l2_7) c2_7), (7, .bool dirty), (16, .bool false), (17, .pointer (some ⟨b3_0_0, 0, none⟩)), (19, .pointer (some ⟨b6_3, 0, none⟩)), (26, .bool y20_8.2.1), (27, .pointer (some ⟨b16_3, 0, none⟩)), (30, .pointer (some ⟨b21_6, 0, none⟩)), (31, .bool y21_2.2), (173, .bool e2_173), (266, .bool (!(decide ((((List.length y22_2.data) : Nat) : Int) = (0 : Int)))))] ⟨by kernel_rfl, by kernel_rfl, by kernel_rfl, by kernel_rfl, by kernel_rfl, by kernel_rfl, by kernel_rfl, by kernel_rfl, by kernel_rfl, by kernel_rfl, by kernel_rfl, by kernel_rfl, by kernel_rfl, by kernel_rfl, by kernel_rfl, trivial⟩ ?_
                                    refine at_then_normal ?_
                                    rcases Bool.eq_false_or_eq_true (!(decide ((((List.length y22_2.data) : Nat) : Int) = (0 : Int)))) with h31 | h31
                                    · replace H := bifT H h31
                                      refine at_true (t := !(decide ((((List.length y22_2.data) : Nat) : Int) = (0 : Int)))) (x := C5 [1, 1, 1, 1, 1, 1, 1, 1, 1, 1, 1, 1, 1, 1, 1, 0, 1, 0]) (y := C5 [1, 1, 1, 1, 1, 1, 1, 1, 1, 1, 1, 1, 1, 1, 1, 0, 1, 1]) (o := .tmp 266) (by kernel_rfl) (by kernel_rfl) (by kernel_rfl) h31 ?_
                                      refine at_seq (x := C5 [1, 1, 1, 1, 1, 1, 1, 1, 1, 1, 1, 1, 1, 1, 1, 0, 1, 0, 0]) (y := C5 [1, 1, 1, 1, 1, 1, 1, 1, 1, 1, 1, 1, 1, 1, 1, 0, 1, 0, 1]) (by kernel_rfl) ?_
                                      refine at_region (id := 24) 1 (by kernel_rfl) (by kernel_rfl) ?_
                                      refine s_pure 16 (.bool false) (by kernel_rfl) (by kernel_rfl) (fun _ => by kernel_rfl) ?_
                                      refine ops_end ?_
                                      refine At.env [(0, .int .i64 y1_1), (1, .int .i64 y1_3), (2, .int .i64 y1_5), (3, .int .i64 (wr ((3 : Int) + y1_7))), (5, .slice a2_7 (List.length l2_7) c2_7), (7, .bool dirty), (16, .bool false), (17, .pointer (some ⟨b3_0_0, 0, none⟩)), (19, .pointer (some ⟨b6_3, 0, none⟩)), (26, .bool y20_8.2.1), (27, .pointer (some ⟨b16_3, 0, none⟩)), (30, .pointer (some ⟨b21_6, 0, none⟩)), (31, .bool y21_2.2), (173, .bool e2_173), (266, .bool (!(decide ((((List.length y22_2.data) : Nat) : Int) = (0 : Int)))))] ⟨by kernel_rfl, by kernel_rfl, by kernel_rfl, by kernel_rfl, by kernel_rfl, by kernel_rfl, by kernel_rfl, by kernel_rfl, by kernel_rfl, by kernel_rfl, by kernel_rfl, by kernel_rfl, by kernel_rfl, by kernel_rfl, by kernel_rfl, trivial⟩ ?_
                                      refine at_then_normal ?_
                                      refine at_ret (by kernel_rfl) ?_
                                      refine at_then_ret ?_
                                      obtain rfl := someE H
                                      refine at_backR [.bool false] (Γ) (rs := [.tmp 16]) (by kernel_rfl) (.cons (.tmp (by kernel_rfl)) .nil) (fun w hw => (Sat.less (.drop .here (.drop .here (.drop .here (.drop .here (.drop .here (.drop .here (.drop .here (.drop .here (.drop .here (.drop .here (.drop .here .refl))))))))))) hw)) ?_
                                      exact ⟨rfl, rfl⟩
                                    · replace H := bifF H h31
                                      refine at_false (t := !(decide ((((List.length y22_2.data) : Nat) : Int) = (0 : Int)))) (x := C5 [1, 1, 1, 1, 1, 1, 1, 1, 1, 1, 1, 1, 1, 1, 1, 0, 1, 0]) (y := C5 [1, 1, 1, 1, 1, 1, 1, 1, 1, 1, 1, 1, 1, 1, 1, 0, 1, 1]) (o := .tmp 266) (by kernel_rfl) (by kernel_rfl) (by kernel_rfl) h31 ?_
                                      refine at_skip (by kernel_rfl) ?_
                                      refine at_round_normal ?_
                                      exact at_join_mk [(0, .int .i64 y1_1), (1, .int .i64 y1_3), (2, .int .i64 y1_5), (16, .bool false), (17, .pointer (some ⟨b3_0_0, 0, none⟩)), (19, .pointer (some ⟨b6_3, 0, none⟩)), (26, .bool y20_8.2.1)] ((CacheA b3_0_0 y20_8.2.2) :: (Asn.own b6_3 (.cells #[.int .i64 y20_8.1.kind, .int .i64 y20_8.1.line, .int .i64 y20_8.1.id, .int .i64 y20_8.1.step, .int .i64 y20_8.1.state, .int .i64 y20_8.1.head, .slice a20_8_00 (List.length y20_8.1.data) c20_8_00, .int .i64 y20_8.1.next, .int .i64 y20_8.1.told] 35 (0, 0))) :: (ImmI a20_8_00 y20_8.1.data) :: (RCacheA b3_0_1 y3_0.2) :: Γ) ⟨by kernel_rfl, by kernel_rfl, by kernel_rfl, by kernel_rfl, by kernel_rfl, by kernel_rfl, by kernel_rfl, trivial⟩ (fun w hw => (Sat.less (.take (.there (.there (.there (.there .here)))) (.take (.there (.there (.there (.there .here)))) (.take (.there (.there (.there (.there .here)))) (.take (.there (.there (.there (.there (.there (.there .here)))))) (.drop .here (.drop .here (.drop .here (.drop .here (.drop .here (.drop .here (.drop .here .refl))))))))))) hw)) ⟨H, rfl, rfl⟩
                                  · replace H := bifF H h30
                                    refine s_pure 260 (.bool false) (by kernel_rfl) (by kernel_rfl) (run_eq (v := .bool (!dirty)) (fun _ => by kernel_rfl) (congrArg Value.bool h30)) ?_
                                    refine s_pass 261 (by kernel_rfl) (by kernel_rfl) ?_
                                    refine s_pass 262 (by kernel_rfl) (by kernel_rfl) ?_
                                    refine s_pass 263 (by kernel_rfl) (by kernel_rfl) ?_
                                    refine s_pass 264 (by kernel_rfl) (by kernel_rfl) ?_
                                    refine s_pure 265 (.bool false) (by kernel_rfl) (by kernel_rfl) (fun _ => by kernel_rfl) ?_
                                    refine s_pure 266 (.bool false) (by kernel_rfl) (by kernel_rfl) (fun _ => by kernel_rfl) ?_
                                    refine ops_end ?_
                                    refine At.env [(0, .int .i64 y1_1), (1, .int .i64 y1_3), (2, .int .i64 y1_5), (3, .int .i64 (wr ((3 : Int) + y1_7))), (5, .slice a2_7 (List.length l2_7) c2_7), (7, .bool dirty), (16, .bool false), (17, .pointer (some ⟨b3_0_0, 0, none⟩)), (19, .pointer (some ⟨b6_3, 0, none⟩)), (26, .bool y20_8.2.1), (27, .pointer (some ⟨b16_3, 0, none⟩)), (30, .pointer (some ⟨b21_6, 0, none⟩)), (31, .bool y21_2.2), (173, .bool e2_173), (266, .bool false)] ⟨by kernel_rfl, by kernel_rfl, by kernel_rfl, by kernel_rfl, by kernel_rfl, by kernel_rfl, by kernel_rfl, by kernel_rfl, by kernel_rfl, by kernel_rfl, by kernel_rfl, by kernel_rfl, by kernel_rfl, by kernel_rfl, by kernel_rfl, trivial⟩ ?_
                                    refine at_then_normal ?_
                                    refine at_false (t := false) (x := C5 [1, 1, 1, 1, 1, 1, 1, 1, 1, 1, 1, 1, 1, 1, 1, 0, 1, 0]) (y := C5 [1, 1, 1, 1, 1, 1, 1, 1, 1, 1, 1, 1, 1, 1, 1, 0, 1, 1]) (o := .tmp 266) (by kernel_rfl) (by kernel_rfl) (by kernel_rfl) rfl ?_
                                    refine at_skip (by kernel_rfl) ?_
                                    refine at_round_normal ?_
                                    exact at_join_mk [(0, .int .i64 y1_1), (1, .int .i64 y1_3), (2, .int .i64 y1_5), (16, .bool false), (17, .pointer (some ⟨b3_0_0, 0, none⟩)), (19, .pointer (some ⟨b6_3, 0, none⟩)), (26, .bool y20_8.2.1)] ((CacheA b3_0_0 y20_8.2.2) :: (Asn.own b6_3 (.cells #[.int .i64 y20_8.1.kind, .int .i64 y20_8.1.line, .int .i64 y20_8.1.id, .int .i64 y20_8.1.step, .int .i64 y20_8.1.state, .int .i64 y20_8.1.head, .slice a20_8_00 (List.length y20_8.1.data) c20_8_00, .int .i64 y20_8.1.next, .int .i64 y20_8.1.told] 35 (0, 0))) :: (ImmI a20_8_00 y20_8.1.data) :: (RCacheA b3_0_1 y3_0.2) :: Γ) ⟨by kernel_rfl, by kernel_rfl, by kernel_rfl, by kernel_rfl, by kernel_rfl, by kernel_rfl, by kernel_rfl, trivial⟩ (fun w hw => (Sat.less (.take (.there (.there (.there (.there .here)))) (.take (.there (.there (.there (.there .here)))) (.take (.there (.there (.there (.there .here)))) (.take (.there (.there (.there (.there (.there (.there .here)))))) (.drop .here (.drop .here (.drop .here (.drop .here (.drop .here (.drop .here (.drop .here .refl))))))))))) hw)) ⟨H, rfl, rfl⟩
      · refine at_region (id := 18) 22 (by kernel_rfl) (by kernel_rfl) ?_
        refine s_pure 152 (.bool y15_9.2.1) (by kernel_rfl) (by kernel_rfl) (fun _ => by kernel_rfl) ?_
        refine s_pure 153 (.bool !y15_9.2.1) (by kernel_rfl) (by kernel_rfl) (fun _ => by kernel_rfl) ?_
        rcases Bool.eq_false_or_eq_true (!y15_9.2.1) with h32 | h32
        · replace H := bifT H h32
          refine s_pure 154 (.bool true) (by kernel_rfl) (by kernel_rfl) (run_eq (v := .bool (!y15_9.2.1)) (fun _ => by kernel_rfl) (congrArg Value.bool h32)) ?_
          refine s_pass 155 (by kernel_rfl) (by kernel_rfl) ?_
          refine s_pure 156 (.bool true) (by kernel_rfl) (by kernel_rfl) (fun _ => by kernel_rfl) ?_
          refine s_pure 157 (.bool true) (by kernel_rfl) (by kernel_rfl) (fun _ => by kernel_rfl) ?_
          refine s_pass 158 (by kernel_rfl) (by kernel_rfl) ?_
          refine s_pass 159 (by kernel_rfl) (by kernel_rfl) ?_
          refine s_pass 160 (by kernel_rfl) (by kernel_rfl) ?_
          refine s_pure 161 (.bool true) (by kernel_rfl) (by kernel_rfl) (fun _ => by kernel_rfl) ?_
          refine s_pure 162 (.bool true) (by kernel_rfl) (by kernel_rfl) (fun _ => by kernel_rfl) ?_
          refine s_pass 163 (by kernel_rfl) (by kernel_rfl) ?_
          refine s_pass 164 (by kernel_rfl) (by kernel_rfl) ?_
          refine s_pass 165 (by kernel_rfl) (by kernel_rfl) ?_
          refine s_pass 166 (by kernel_rfl) (by kernel_rfl) ?_
          refine s_pure 167 (.bool true) (by kernel_rfl) (by kernel_rfl) (fun _ => by kernel_rfl) ?_
          refine s_pure 168 (.bool true) (by kernel_rfl) (by kernel_rfl) (fun _ => by kernel_rfl) ?_
          refine s_pass 169 (by kernel_rfl) (by kernel_rfl) ?_
          refine s_pass 170 (by kernel_rfl) (by kernel_rfl) ?_
          refine s_pass 171 (by kernel_rfl) (by kernel_rfl) ?_
          refine s_pass 172 (by kernel_rfl) (by kernel_rfl) ?_
          refine s_pure 173 (.bool true) (by kernel_rfl) (by kernel_rfl) (fun _ => by kernel_rfl) ?_
          refine ops_end ?_
          refine At.env [(0, .int .i64 y1_1), (1, .int .i64 y1_3), (2, .int .i64 y1_5), (3, .int .i64 (wr ((3 : Int) + y1_7))), (4, .slice a2_3 (List.length l2_3) c2_3), (5, .slice a2_7 (List.length l2_7) c2_7), (7, .bool dirty), (16, .bool false), (17, .pointer (some ⟨b3_0_0, 0, none⟩)), (19, .pointer (some ⟨b6_3, 0, none⟩)), (25, .int .i64 e1_25), (26, .bool y15_9.2.1), (27, .pointer (some ⟨b16_3, 0, none⟩)), (29, .bool y17_2.2), (173, .bool true)] ⟨by kernel_rfl, by kernel_rfl, by kernel_rfl, by kernel_rfl, by kernel_rfl, by kernel_rfl, by kernel_rfl, by kernel_rfl, by kernel_rfl, by kernel_rfl, by kernel_rfl, by kernel_rfl, by kernel_rfl, by kernel_rfl, by kernel_rfl, trivial⟩ ?_
          refine at_round_normal ?_
          exact at_join_mk [(0, .int .i64 y1_1), (1, .int .i64 y1_3), (2, .int .i64 y1_5), (3, .int .i64 (wr ((3 : Int) + y1_7))), (5, .slice a2_7 (List.length l2_7) c2_7), (7, .bool dirty), (16, .bool false), (17, .pointer (some ⟨b3_0_0, 0, none⟩)), (19, .pointer (some ⟨b6_3, 0, none⟩)), (26, .bool y15_9.2.1), (27, .pointer (some ⟨b16_3, 0, none⟩)), (173, .bool true)] ((CacheA b3_0_0 y15_9.2.2) :: (Asn.own b16_3 (.cells #[.int .i64 y16_2.kind, .int .i64 y16_2.src, .int .i64 y16_2.dst, .int .i64 y16_2.id, .int .i64 y16_2.line, .int .i64 y16_2.ptr, .int .i64 y16_2.state, .bool y16_2.flag, .slice a16_2_00 (List.length y16_2.data) c16_2_00] 40 (0, 0))) :: (IntsA a16_2_00 c16_2_00 y16_2.data) :: (Asn.own b6_3 (.cells #[.int .i64 y15_9.1.kind, .int .i64 y15_9.1.line, .int .i64 y15_9.1.id, .int .i64 y15_9.1.step, .int .i64 y15_9.1.state, .int .i64 y15_9.1.head, .slice a15_9_00 (List.length y15_9.1.data) c15_9_00, .int .i64 y15_9.1.next, .int .i64 y15_9.1.told] 35 (0, 0))) :: (ImmI a15_9_00 y15_9.1.data) :: (RCacheA b3_0_1 y3_0.2) :: (IntsA a2_7 c2_7 l2_7) :: Γ) ⟨by kernel_rfl, by kernel_rfl, by kernel_rfl, by kernel_rfl, by kernel_rfl, by kernel_rfl, by kernel_rfl, by kernel_rfl, by kernel_rfl, by kernel_rfl, by kernel_rfl, by kernel_rfl, trivial⟩ (fun w hw => (Sat.less (.take (.there (.there .here)) (.take (.there (.there .here)) (.take (.there (.there .here)) (.take (.there (.there .here)) (.take (.there (.there .here)) (.take (.there (.there (.there .here))) (.take (.there (.there (.there .here))) (.drop .here (.drop .here (.drop .here (.drop .here .refl))))))))))) hw)) ⟨true, H, rfl, rfl⟩
        · replace H := bifF H h32
          refine s_pure 154 (.bool false) (by kernel_rfl) (by kernel_rfl) (run_eq (v := .bool (!y15_9.2.1)) (fun _ => by kernel_rfl) (congrArg Value.bool h32)) ?_
          refine s_pure 155 (.bool y17_2.2) (by kernel_rfl) (by kernel_rfl) (fun _ => by kernel_rfl) ?_
          refine s_pure 156 (.bool y17_2.2) (by kernel_rfl) (by kernel_rfl) (fun _ => by kernel_rfl) ?_
          rcases Bool.eq_false_or_eq_true (y17_2.2) with h33 | h33
          · replace H := bifT H h33
            refine s_pure 157 (.bool true) (by kernel_rfl) (by kernel_rfl) (run_eq (v := .bool (y17_2.2)) (fun _ => by kernel_rfl) (congrArg Value.bool h33)) ?_
            refine s_pass 158 (by kernel_rfl) (by kernel_rfl) ?_
            refine s_pass 159 (by kernel_rfl) (by kernel_rfl) ?_
            refine s_pass 160 (by kernel_rfl) (by kernel_rfl) ?_
            refine s_pure 161 (.bool true) (by kernel_rfl) (by kernel_rfl) (fun _ => by kernel_rfl) ?_
            refine s_pure 162 (.bool true) (by kernel_rfl) (by kernel_rfl) (fun _ => by kernel_rfl) ?_
            refine s_pass 163 (by kernel_rfl) (by kernel_rfl) ?_
            refine s_pass 164 (by kernel_rfl) (by kernel_rfl) ?_
            refine s_pass 165 (by kernel_rfl) (by kernel_rfl) ?_
            refine s_pass 166 (by kernel_rfl) (by kernel_rfl) ?_
            refine s_pure 167 (.bool true) (by kernel_rfl) (by kernel_rfl) (fun _ => by kernel_rfl) ?_
            refine s_pure 168 (.bool true) (by kernel_rfl) (by kernel_rfl) (fun _ => by kernel_rfl) ?_
            refine s_pass 169 (by kernel_rfl) (by kernel_rfl) ?_
            refine s_pass 170 (by kernel_rfl) (by kernel_rfl) ?_
            refine s_pass 171 (by kernel_rfl) (by kernel_rfl) ?_
            refine s_pass 172 (by kernel_rfl) (by kernel_rfl) ?_
            refine s_pure 173 (.bool true) (by kernel_rfl) (by kernel_rfl) (fun _ => by kernel_rfl) ?_
            refine ops_end ?_
            refine At.env [(0, .int .i64 y1_1), (1, .int .i64 y1_3), (2, .int .i64 y1_5), (3, .int .i64 (wr ((3 : Int) + y1_7))), (4, .slice a2_3 (List.length l2_3) c2_3), (5, .slice a2_7 (List.length l2_7) c2_7), (7, .bool dirty), (16, .bool false), (17, .pointer (some ⟨b3_0_0, 0, none⟩)), (19, .pointer (some ⟨b6_3, 0, none⟩)), (25, .int .i64 e1_25), (26, .bool y15_9.2.1), (27, .pointer (some ⟨b16_3, 0, none⟩)), (29, .bool y17_2.2), (173, .bool true)] ⟨by kernel_rfl, by kernel_rfl, by kernel_rfl, by kernel_rfl, by kernel_rfl, by kernel_rfl, by kernel_rfl, by kernel_rfl, by kernel_rfl, by kernel_rfl, by kernel_rfl, by kernel_rfl, by kernel_rfl, by kernel_rfl, by kernel_rfl, trivial⟩ ?_
            refine at_round_normal ?_
            exact at_join_mk [(0, .int .i64 y1_1), (1, .int .i64 y1_3), (2, .int .i64 y1_5), (3, .int .i64 (wr ((3 : Int) + y1_7))), (5, .slice a2_7 (List.length l2_7) c2_7), (7, .bool dirty), (16, .bool false), (17, .pointer (some ⟨b3_0_0, 0, none⟩)), (19, .pointer (some ⟨b6_3, 0, none⟩)), (26, .bool y15_9.2.1), (27, .pointer (some ⟨b16_3, 0, none⟩)), (173, .bool true)] ((CacheA b3_0_0 y15_9.2.2) :: (Asn.own b16_3 (.cells #[.int .i64 y16_2.kind, .int .i64 y16_2.src, .int .i64 y16_2.dst, .int .i64 y16_2.id, .int .i64 y16_2.line, .int .i64 y16_2.ptr, .int .i64 y16_2.state, .bool y16_2.flag, .slice a16_2_00 (List.length y16_2.data) c16_2_00] 40 (0, 0))) :: (IntsA a16_2_00 c16_2_00 y16_2.data) :: (Asn.own b6_3 (.cells #[.int .i64 y15_9.1.kind, .int .i64 y15_9.1.line, .int .i64 y15_9.1.id, .int .i64 y15_9.1.step, .int .i64 y15_9.1.state, .int .i64 y15_9.1.head, .slice a15_9_00 (List.length y15_9.1.data) c15_9_00, .int .i64 y15_9.1.next, .int .i64 y15_9.1.told] 35 (0, 0))) :: (ImmI a15_9_00 y15_9.1.data) :: (RCacheA b3_0_1 y3_0.2) :: (IntsA a2_7 c2_7 l2_7) :: Γ) ⟨by kernel_rfl, by kernel_rfl, by kernel_rfl, by kernel_rfl, by kernel_rfl, by kernel_rfl, by kernel_rfl, by kernel_rfl, by kernel_rfl, by kernel_rfl, by kernel_rfl, by kernel_rfl, trivial⟩ (fun w hw => (Sat.less (.take (.there (.there .here)) (.take (.there (.there .here)) (.take (.there (.there .here)) (.take (.there (.there .here)) (.take (.there (.there .here)) (.take (.there (.there (.there .here))) (.take (.there (.there (.there .here))) (.drop .here (.drop .here (.drop .here (.drop .here .refl))))))))))) hw)) ⟨true, H, rfl, rfl⟩
          · replace H := bifF H h33
            refine s_pure 157 (.bool false) (by kernel_rfl) (by kernel_rfl) (run_eq (v := .bool (y17_2.2)) (fun _ => by kernel_rfl) (congrArg Value.bool h33)) ?_
            refine s_pure 158 (.pointer (some ⟨b16_3, 0, none⟩)) (by kernel_rfl) (by kernel_rfl) (fun _ => by kernel_rfl) ?_
            refine s_load 159 (.int .i64 y16_2.kind) (by kernel_rfl) (by kernel_rfl) (load1 (off := 0) (fun _ => by kernel_rfl) (holds_own (.there (.there (.there .here)))) (by kernel_rfl)) ?_
            refine s_pure 160 (.bool (!(decide (y16_2.kind = (3 : Int))))) (by kernel_rfl) (by kernel_rfl) (fun _ => by kernel_rfl) ?_
            refine s_pure 161 (.bool (!(decide (y16_2.kind = (3 : Int))))) (by kernel_rfl) (by kernel_rfl) (fun _ => by kernel_rfl) ?_
            rcases Bool.eq_false_or_eq_true (!(decide (y16_2.kind = (3 : Int)))) with h34 | h34
            · replace H := bifT H h34
              refine s_pure 162 (.bool true) (by kernel_rfl) (by kernel_rfl) (run_eq (v := .bool (!(decide (y16_2.kind = (3 : Int))))) (fun _ => by kernel_rfl) (congrArg Value.bool h34)) ?_
              refine s_pass 163 (by kernel_rfl) (by kernel_rfl) ?_
              refine s_pass 164 (by kernel_rfl) (by kernel_rfl) ?_
              refine s_pass 165 (by kernel_rfl) (by kernel_rfl) ?_
              refine s_pass 166 (by kernel_rfl) (by kernel_rfl) ?_
              refine s_pure 167 (.bool true) (by kernel_rfl) (by kernel_rfl) (fun _ => by kernel_rfl) ?_
              refine s_pure 168 (.bool true) (by kernel_rfl) (by kernel_rfl) (fun _ => by kernel_rfl) ?_
              refine s_pass 169 (by kernel_rfl) (by kernel_rfl) ?_
              refine s_pass 170 (by kernel_rfl) (by kernel_rfl) ?_
              refine s_pass 171 (by kernel_rfl) (by kernel_rfl) ?_
              refine s_pass 172 (by kernel_rfl) (by kernel_rfl) ?_
              refine s_pure 173 (.bool true) (by kernel_rfl) (by kernel_rfl) (fun _ => by kernel_rfl) ?_
              refine ops_end ?_
              refine At.env [(0, .int .i64 y1_1), (1, .int .i64 y1_3), (2, .int .i64 y1_5), (3, .int .i64 (wr ((3 : Int) + y1_7))), (4, .slice a2_3 (List.length l2_3) c2_3), (5, .slice a2_7 (List.length l2_7) c2_7), (7, .bool dirty), (16, .bool false), (17, .pointer (some ⟨b3_0_0, 0, none⟩)), (19, .pointer (some ⟨b6_3, 0, none⟩)), (25, .int .i64 e1_25), (26, .bool y15_9.2.1), (27, .pointer (some ⟨b16_3, 0, none⟩)), (29, .bool y17_2.2), (173, .bool true)] ⟨by kernel_rfl, by kernel_rfl, by kernel_rfl, by kernel_rfl, by kernel_rfl, by kernel_rfl, by kernel_rfl, by kernel_rfl, by kernel_rfl, by kernel_rfl, by kernel_rfl, by kernel_rfl, by kernel_rfl, by kernel_rfl, by kernel_rfl, trivial⟩ ?_
              refine at_round_normal ?_
              exact at_join_mk [(0, .int .i64 y1_1), (1, .int .i64 y1_3), (2, .int .i64 y1_5), (3, .int .i64 (wr ((3 : Int) + y1_7))), (5, .slice a2_7 (List.length l2_7) c2_7), (7, .bool dirty), (16, .bool false), (17, .pointer (some ⟨b3_0_0, 0, none⟩)), (19, .pointer (some ⟨b6_3, 0, none⟩)), (26, .bool y15_9.2.1), (27, .pointer (some ⟨b16_3, 0, none⟩)), (173, .bool true)] ((CacheA b3_0_0 y15_9.2.2) :: (Asn.own b16_3 (.cells #[.int .i64 y16_2.kind, .int .i64 y16_2.src, .int .i64 y16_2.dst, .int .i64 y16_2.id, .int .i64 y16_2.line, .int .i64 y16_2.ptr, .int .i64 y16_2.state, .bool y16_2.flag, .slice a16_2_00 (List.length y16_2.data) c16_2_00] 40 (0, 0))) :: (IntsA a16_2_00 c16_2_00 y16_2.data) :: (Asn.own b6_3 (.cells #[.int .i64 y15_9.1.kind, .int .i64 y15_9.1.line, .int .i64 y15_9.1.id, .int .i64 y15_9.1.step, .int .i64 y15_9.1.state, .int .i64 y15_9.1.head, .slice a15_9_00 (List.length y15_9.1.data) c15_9_00, .int .i64 y15_9.1.next, .int .i64 y15_9.1.told] 35 (0, 0))) :: (ImmI a15_9_00 y15_9.1.data) :: (RCacheA b3_0_1 y3_0.2) :: (IntsA a2_7 c2_7 l2_7) :: Γ) ⟨by kernel_rfl, by kernel_rfl, by kernel_rfl, by kernel_rfl, by kernel_rfl, by kernel_rfl, by kernel_rfl, by kernel_rfl, by kernel_rfl, by kernel_rfl, by kernel_rfl, by kernel_rfl, trivial⟩ (fun w hw => (Sat.less (.take (.there (.there .here)) (.take (.there (.there .here)) (.take (.there (.there .here)) (.take (.there (.there .here)) (.take (.there (.there .here)) (.take (.there (.there (.there .here))) (.take (.there (.there (.there .here))) (.drop .here (.drop .here (.drop .here (.drop .here .refl))))))))))) hw)) ⟨true, H, rfl, rfl⟩
            · replace H := bifF H h34
              refine s_pure 162 (.bool false) (by kernel_rfl) (by kernel_rfl) (run_eq (v := .bool (!(decide (y16_2.kind = (3 : Int))))) (fun _ => by kernel_rfl) (congrArg Value.bool h34)) ?_
              refine s_pure 163 (.pointer (some ⟨b16_3, 2, none⟩)) (by kernel_rfl) (by kernel_rfl) (fun _ => by kernel_rfl) ?_
              refine s_load 164 (.int .i64 y16_2.dst) (by kernel_rfl) (by kernel_rfl) (load1 (off := 2) (fun _ => by kernel_rfl) (holds_own (.there (.there (.there .here)))) (by kernel_rfl)) ?_
              refine s_pure 165 (.int .i64 (wr ((3 : Int) + y1_7))) (by kernel_rfl) (by kernel_rfl) (fun _ => by kernel_rfl) ?_
              refine s_pure 166 (.bool (!(decide (y16_2.dst = (wr ((3 : Int) + y1_7)))))) (by kernel_rfl) (by kernel_rfl) (fun _ => by kernel_rfl) ?_
              refine s_pure 167 (.bool (!(decide (y16_2.dst = (wr ((3 : Int) + y1_7)))))) (by kernel_rfl) (by kernel_rfl) (fun _ => by kernel_rfl) ?_
              rcases Bool.eq_false_or_eq_true (!(decide (y16_2.dst = (wr ((3 : Int) + y1_7))))) with h35 | h35
              · replace H := bifT H h35
                refine s_pure 168 (.bool true) (by kernel_rfl) (by kernel_rfl) (run_eq (v := .bool (!(decide (y16_2.dst = (wr ((3 : Int) + y1_7)))))) (fun _ => by kernel_rfl) (congrArg Value.bool h35)) ?_
                refine s_pass 169 (by kernel_rfl) (by kernel_rfl) ?_
                refine s_pass 170 (by kernel_rfl) (by kernel_rfl) ?_
                refine s_pass 171 (by kernel_rfl) (by kernel_rfl) ?_
                refine s_pass 172 (by kernel_rfl) (by kernel_rfl) ?_
                refine s_pure 173 (.bool true) (by kernel_rfl) (by kernel_rfl) (fun _ => by kernel_rfl) ?_
                refine ops_end ?_
                refine At.env [(0, .int .i64 y1_1), (1, .int .i64 y1_3), (2, .int .i64 y1_5), (3, .int .i64 (wr ((3 : Int) + y1_7))), (4, .slice a2_3 (List.length l2_3) c2_3), (5, .slice a2_7 (List.length l2_7) c2_7), (7, .bool dirty), (16, .bool false), (17, .pointer (some ⟨b3_0_0, 0, none⟩)), (19, .pointer (some ⟨b6_3, 0, none⟩)), (25, .int .i64 e1_25), (26, .bool y15_9.2.1), (27, .pointer (some ⟨b16_3, 0, none⟩)), (29, .bool y17_2.2), (173, .bool true)] ⟨by kernel_rfl, by kernel_rfl, by kernel_rfl, by kernel_rfl, by kernel_rfl, by kernel_rfl, by kernel_rfl, by kernel_rfl, by kernel_rfl, by kernel_rfl, by kernel_rfl, by kernel_rfl, by kernel_rfl, by kernel_rfl, by kernel_rfl, trivial⟩ ?_
                refine at_round_normal ?_
                exact at_join_mk [(0, .int .i64 y1_1), (1, .int .i64 y1_3), (2, .int .i64 y1_5), (3, .int .i64 (wr ((3 : Int) + y1_7))), (5, .slice a2_7 (List.length l2_7) c2_7), (7, .bool dirty), (16, .bool false), (17, .pointer (some ⟨b3_0_0, 0, none⟩)), (19, .pointer (some ⟨b6_3, 0, none⟩)), (26, .bool y15_9.2.1), (27, .pointer (some ⟨b16_3, 0, none⟩)), (173, .bool true)] ((CacheA b3_0_0 y15_9.2.2) :: (Asn.own b16_3 (.cells #[.int .i64 y16_2.kind, .int .i64 y16_2.src, .int .i64 y16_2.dst, .int .i64 y16_2.id, .int .i64 y16_2.line, .int .i64 y16_2.ptr, .int .i64 y16_2.state, .bool y16_2.flag, .slice a16_2_00 (List.length y16_2.data) c16_2_00] 40 (0, 0))) :: (IntsA a16_2_00 c16_2_00 y16_2.data) :: (Asn.own b6_3 (.cells #[.int .i64 y15_9.1.kind, .int .i64 y15_9.1.line, .int .i64 y15_9.1.id, .int .i64 y15_9.1.step, .int .i64 y15_9.1.state, .int .i64 y15_9.1.head, .slice a15_9_00 (List.length y15_9.1.data) c15_9_00, .int .i64 y15_9.1.next, .int .i64 y15_9.1.told] 35 (0, 0))) :: (ImmI a15_9_00 y15_9.1.data) :: (RCacheA b3_0_1 y3_0.2) :: (IntsA a2_7 c2_7 l2_7) :: Γ) ⟨by kernel_rfl, by kernel_rfl, by kernel_rfl, by kernel_rfl, by kernel_rfl, by kernel_rfl, by kernel_rfl, by kernel_rfl, by kernel_rfl, by kernel_rfl, by kernel_rfl, by kernel_rfl, trivial⟩ (fun w hw => (Sat.less (.take (.there (.there .here)) (.take (.there (.there .here)) (.take (.there (.there .here)) (.take (.there (.there .here)) (.take (.there (.there .here)) (.take (.there (.there (.there .here))) (.take (.there (.there (.there .here))) (.drop .here (.drop .here (.drop .here (.drop .here .refl))))))))))) hw)) ⟨true, H, rfl, rfl⟩
              · replace H := bifF H h35
                refine s_pure 168 (.bool false) (by kernel_rfl) (by kernel_rfl) (run_eq (v := .bool (!(decide (y16_2.dst = (wr ((3 : Int) + y1_7)))))) (fun _ => by kernel_rfl) (congrArg Value.bool h35)) ?_
                refine s_pure 169 (.pointer (some ⟨b16_3, 5, none⟩)) (by kernel_rfl) (by kernel_rfl) (fun _ => by kernel_rfl) ?_
                refine s_load 170 (.int .i64 y16_2.ptr) (by kernel_rfl) (by kernel_rfl) (load1 (off := 5) (fun _ => by kernel_rfl) (holds_own (.there (.there (.there .here)))) (by kernel_rfl)) ?_
                refine s_pure 171 (.int .i64 y1_5) (by kernel_rfl) (by kernel_rfl) (fun _ => by kernel_rfl) ?_
                refine s_pure 172 (.bool (!(decide (y16_2.ptr = y1_5)))) (by kernel_rfl) (by kernel_rfl) (fun _ => by kernel_rfl) ?_
                refine s_pure 173 (.bool (!(decide (y16_2.ptr = y1_5)))) (by kernel_rfl) (by kernel_rfl) (fun _ => by kernel_rfl) ?_
                refine ops_end ?_
                refine At.env [(0, .int .i64 y1_1), (1, .int .i64 y1_3), (2, .int .i64 y1_5), (3, .int .i64 (wr ((3 : Int) + y1_7))), (4, .slice a2_3 (List.length l2_3) c2_3), (5, .slice a2_7 (List.length l2_7) c2_7), (7, .bool dirty), (16, .bool false), (17, .pointer (some ⟨b3_0_0, 0, none⟩)), (19, .pointer (some ⟨b6_3, 0, none⟩)), (25, .int .i64 e1_25), (26, .bool y15_9.2.1), (27, .pointer (some ⟨b16_3, 0, none⟩)), (29, .bool y17_2.2), (173, .bool (!(decide (y16_2.ptr = y1_5))))] ⟨by kernel_rfl, by kernel_rfl, by kernel_rfl, by kernel_rfl, by kernel_rfl, by kernel_rfl, by kernel_rfl, by kernel_rfl, by kernel_rfl, by kernel_rfl, by kernel_rfl, by kernel_rfl, by kernel_rfl, by kernel_rfl, by kernel_rfl, trivial⟩ ?_
                refine at_round_normal ?_
                exact at_join_mk [(0, .int .i64 y1_1), (1, .int .i64 y1_3), (2, .int .i64 y1_5), (3, .int .i64 (wr ((3 : Int) + y1_7))), (5, .slice a2_7 (List.length l2_7) c2_7), (7, .bool dirty), (16, .bool false), (17, .pointer (some ⟨b3_0_0, 0, none⟩)), (19, .pointer (some ⟨b6_3, 0, none⟩)), (26, .bool y15_9.2.1), (27, .pointer (some ⟨b16_3, 0, none⟩)), (173, .bool (!(decide (y16_2.ptr = y1_5))))] ((CacheA b3_0_0 y15_9.2.2) :: (Asn.own b16_3 (.cells #[.int .i64 y16_2.kind, .int .i64 y16_2.src, .int .i64 y16_2.dst, .int .i64 y16_2.id, .int .i64 y16_2.line, .int .i64 y16_2.ptr, .int .i64 y16_2.state, .bool y16_2.flag, .slice a16_2_00 (List.length y16_2.data) c16_2_00] 40 (0, 0))) :: (IntsA a16_2_00 c16_2_00 y16_2.data) :: (Asn.own b6_3 (.cells #[.int .i64 y15_9.1.kind, .int .i64 y15_9.1.line, .int .i64 y15_9.1.id, .int .i64 y15_9.1.step, .int .i64 y15_9.1.state, .int .i64 y15_9.1.head, .slice a15_9_00 (List.length y15_9.1.data) c15_9_00, .int .i64 y15_9.1.next, .int .i64 y15_9.1.told] 35 (0, 0))) :: (ImmI a15_9_00 y15_9.1.data) :: (RCacheA b3_0_1 y3_0.2) :: (IntsA a2_7 c2_7 l2_7) :: Γ) ⟨by kernel_rfl, by kernel_rfl, by kernel_rfl, by kernel_rfl, by kernel_rfl, by kernel_rfl, by kernel_rfl, by kernel_rfl, by kernel_rfl, by kernel_rfl, by kernel_rfl, by kernel_rfl, trivial⟩ (fun w hw => (Sat.less (.take (.there (.there .here)) (.take (.there (.there .here)) (.take (.there (.there .here)) (.take (.there (.there .here)) (.take (.there (.there .here)) (.take (.there (.there (.there .here))) (.take (.there (.there (.there .here))) (.drop .here (.drop .here (.drop .here (.drop .here .refl))))))))))) hw)) ⟨!(decide (y16_2.ptr = y1_5)), H, rfl, rfl⟩
    · refine at_seq (x := C5 [1, 1, 1, 1, 1, 1, 1, 1, 0, 0]) (y := C5 [1, 1, 1, 1, 1, 1, 1, 1, 0, 1]) (by kernel_rfl) ?_
      refine at_region (id := 13) 1 (by kernel_rfl) (by kernel_rfl) ?_
      refine s_pure 129 (.bool dirty) (by kernel_rfl) (by kernel_rfl) (fun _ => by kernel_rfl) ?_
      refine ops_end ?_
      refine At.env [(0, .int .i64 y1_1), (1, .int .i64 y1_3), (2, .int .i64 y1_5), (3, .int .i64 (wr ((3 : Int) + y1_7))), (4, .slice a2_3 (List.length l2_3) c2_3), (5, .slice a2_7 (List.length l2_7) c2_7), (6, .bool fresh), (7, .bool dirty), (16, .bool false), (17, .pointer (some ⟨b3_0_0, 0, none⟩)), (19, .pointer (some ⟨b6_3, 0, none⟩)), (25, .int .i64 (1)), (54, .bool false), (58, .bool fresh), (129, .bool dirty)] ⟨by kernel_rfl, by kernel_rfl, by kernel_rfl, by kernel_rfl, by kernel_rfl, by kernel_rfl, by kernel_rfl, by kernel_rfl, by kernel_rfl, by kernel_rfl, by kernel_rfl, by kernel_rfl, by kernel_rfl, by kernel_rfl, by kernel_rfl, trivial⟩ ?_
      refine at_then_normal ?_
      rcases Bool.eq_false_or_eq_true (dirty) with h36 | h36
      · replace H := bifT H h36
        refine at_true (t := dirty) (x := C5 [1, 1, 1, 1, 1, 1, 1, 1, 0, 1, 0]) (y := C5 [1, 1, 1, 1, 1, 1, 1, 1, 0, 1, 1]) (o := .tmp 129) (by kernel_rfl) (by kernel_rfl) (by kernel_rfl) h36 ?_
        refine at_region (id := 14) 1 (by kernel_rfl) (by kernel_rfl) ?_
        refine s_pure 25 (.int .i64 (2)) (by kernel_rfl) (by kernel_rfl) (fun _ => by kernel_rfl) ?_
        refine ops_end ?_
        refine At.env [(0, .int .i64 y1_1), (1, .int .i64 y1_3), (2, .int .i64 y1_5), (3, .int .i64 (wr ((3 : Int) + y1_7))), (4, .slice a2_3 (List.length l2_3) c2_3), (5, .slice a2_7 (List.length l2_7) c2_7), (6, .bool fresh), (7, .bool dirty), (16, .bool false), (17, .pointer (some ⟨b3_0_0, 0, none⟩)), (19, .pointer (some ⟨b6_3, 0, none⟩)), (25, .int .i64 (2)), (54, .bool false), (58, .bool fresh), (129, .bool dirty)] ⟨by kernel_rfl, by kernel_rfl, by kernel_rfl, by kernel_rfl, by kernel_rfl, by kernel_rfl, by kernel_rfl, by kernel_rfl, by kernel_rfl, by kernel_rfl, by kernel_rfl, by kernel_rfl, by kernel_rfl, by kernel_rfl, by kernel_rfl, trivial⟩ ?_
        refine at_round_normal ?_
        exact at_join_mk [(0, .int .i64 y1_1), (1, .int .i64 y1_3), (2, .int .i64 y1_5), (3, .int .i64 (wr ((3 : Int) + y1_7))), (4, .slice a2_3 (List.length l2_3) c2_3), (5, .slice a2_7 (List.length l2_7) c2_7), (7, .bool dirty), (16, .bool false), (17, .pointer (some ⟨b3_0_0, 0, none⟩)), (19, .pointer (some ⟨b6_3, 0, none⟩)), (25, .int .i64 2)] ((Asn.own b6_3 (.cells #[.int .i64 y6_2.kind, .int .i64 y6_2.line, .int .i64 y6_2.id, .int .i64 y6_2.step, .int .i64 y6_2.state, .int .i64 y6_2.head, .slice a6_2_00 (List.length y6_2.data) c6_2_00, .int .i64 y6_2.next, .int .i64 y6_2.told] 35 (0, 0))) :: (ImmI a6_2_00 y6_2.data) :: (CacheA b3_0_0 y3_0.1) :: (RCacheA b3_0_1 y3_0.2) :: (IntsA a2_7 c2_7 l2_7) :: (IntsA a2_3 c2_3 l2_3) :: Γ) ⟨by kernel_rfl, by kernel_rfl, by kernel_rfl, by kernel_rfl, by kernel_rfl, by kernel_rfl, by kernel_rfl, by kernel_rfl, by kernel_rfl, by kernel_rfl, by kernel_rfl, trivial⟩ (fun w hw => (Sat.less (.take .here (.take .here (.take .here (.take .here (.take .here (.take (.there .here) (.drop .here (.drop .here .refl)))))))) hw)) ⟨2, H, rfl, rfl⟩
      · replace H := bifF H h36
        refine at_false (t := dirty) (x := C5 [1, 1, 1, 1, 1, 1, 1, 1, 0, 1, 0]) (y := C5 [1, 1, 1, 1, 1, 1, 1, 1, 0, 1, 1]) (o := .tmp 129) (by kernel_rfl) (by kernel_rfl) (by kernel_rfl) h36 ?_
        refine at_skip (by kernel_rfl) ?_
        refine at_round_normal ?_
        exact at_join_mk [(0, .int .i64 y1_1), (1, .int .i64 y1_3), (2, .int .i64 y1_5), (3, .int .i64 (wr ((3 : Int) + y1_7))), (4, .slice a2_3 (List.length l2_3) c2_3), (5, .slice a2_7 (List.length l2_7) c2_7), (7, .bool dirty), (16, .bool false), (17, .pointer (some ⟨b3_0_0, 0, none⟩)), (19, .pointer (some ⟨b6_3, 0, none⟩)), (25, .int .i64 1)] ((Asn.own b6_3 (.cells #[.int .i64 y6_2.kind, .int .i64 y6_2.line, .int .i64 y6_2.id, .int .i64 y6_2.step, .int .i64 y6_2.state, .int .i64 y6_2.head, .slice a6_2_00 (List.length y6_2.data) c6_2_00, .int .i64 y6_2.next, .int .i64 y6_2.told] 35 (0, 0))) :: (ImmI a6_2_00 y6_2.data) :: (CacheA b3_0_0 y3_0.1) :: (RCacheA b3_0_1 y3_0.2) :: (IntsA a2_7 c2_7 l2_7) :: (IntsA a2_3 c2_3 l2_3) :: Γ) ⟨by kernel_rfl, by kernel_rfl, by kernel_rfl, by kernel_rfl, by kernel_rfl, by kernel_rfl, by kernel_rfl, by kernel_rfl, by kernel_rfl, by kernel_rfl, by kernel_rfl, trivial⟩ (fun w hw => (Sat.less (.take .here (.take .here (.take .here (.take .here (.take .here (.take (.there .here) (.drop .here (.drop .here .refl)))))))) hw)) ⟨1, H, rfl, rfl⟩
end Go.Proofs.Ytlnjnkbnppnbkaa
