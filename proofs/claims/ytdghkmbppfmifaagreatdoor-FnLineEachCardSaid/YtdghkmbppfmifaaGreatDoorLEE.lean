/-
  The texts W27, W28, Shelf, RiX, RiC, G of this proof, one behind the other: what each proves stands at its head. No condition.
-/
import Derived.Shelf.Strings.OnBuilder
import Derived.Shelf.LaysM
import Derived.Shelf.Strconv.Itoa3
import Derived.Test.YtdghkmbppfmifaaGreatDoorProg
import Derived.Test.YtdghkmbppfmifaaGreatDoorLEA
import Derived.Test.YtdghkmbppfmifaaGreatDoorLEB
import Derived.Test.YtdghkmbppfmifaaGreatDoorLEC
import Derived.Test.YtdghkmbppfmifaaGreatDoorLED
namespace Go.Proofs.YtdghkmbppfmifaaGreatDoor.Ri
open Go.Proofs.YtdghkmbppfmifaaGreatDoor.Fw
set_option linter.unusedVariables false
set_option linter.unusedSimpArgs false
set_option maxRecDepth 100000
theorem mem4 {y : Int} (h : y ∈ [0, 20, 100, 100000]) : y.natAbs ≤ 4000000000 := by
  simp only [List.mem_cons, List.not_mem_nil, or_false] at h
  omega
theorem o_wp1w3x {p : Prop} (h : p := by (try dsimp only); exact ⟨by first | assumption | decide | omega, by first | assumption | decide | omega⟩) : p := h
theorem o_u5jd7a {p : Prop} (h : p := by first | assumption | omega | decide | exact ob12) : p := h
theorem o_8zh98w {p : Prop} (h : p := by (try dsimp only); exact ⟨by assumption, by assumption, by assumption⟩) : p := h
theorem o_7nn0cg {p : Prop} (h : p := by first | assumption | omega | (simp only [List.length_cons]; omega) | exact ob12) : p := h
theorem o_p0ko5k {p : Prop} (h : p := by (try dsimp only); first | exact ⟨by assumption, by assumption⟩ | exact ⟨⟨by first | assumption | (dsimp only; first | assumption | decide | exact mem4 (by assumption) | (simp (disch := omega) only [i64_id]; omega)), by first | assumption | (dsimp only; first | assumption | decide), by first | assumption | (dsimp only; first | assumption | decide)⟩, by assumption⟩) : p := h
theorem o_s6ctpy {p : Prop} (h : p := by (try dsimp only); exact ⟨rfl, by (intro a ha; simp only [List.mem_cons, List.not_mem_nil, or_false] at ha; rcases ha with e | e | e | e | e | e <;> rw [e] <;> exact ⟨by decide, by decide, by decide⟩)⟩) : p := h
theorem o_0rskrm {p : Prop} (h : p := by first | assumption | omega | (simp (disch := omega) only [i64_id]; omega) | exact DeL.app1 (by assumption) (by assumption) | exact ob12) : p := h
theorem o_13lo8d {p : Prop} (h : p := by (try dsimp only); exact ⟨by omega, by assumption, by assumption⟩) : p := h
theorem o_3yfgwi {p : Prop} (h : p := by first | assumption | omega | exact DeL.nil | exact ob12) : p := h
theorem w87_31 {e0_0 : Int} {e0_1 : ByteArray} {e0_2 : ByteArray} {e0_3 : Int} {e0_4 : Int} {e0_5 : ByteArray} {e1_0 : Int} {e1_1 : ByteArray} {e1_2 : ByteArray} {e1_3 : Int} {e1_4 : Int} {e1_5 : ByteArray} (p0 : e1_3.natAbs ≤ 4000000000) (p1 : e1_4.natAbs ≤ 4000000000) : Wp (L87_31 e0_0 e0_1 e0_2 e0_3 e0_4 e0_5 e1_0 e1_1 e1_2 e1_3 e1_4 e1_5) fun y => y.1.A.natAbs ≤ 4000000000 ∧ y.1.B.natAbs ≤ 4000000000 := by
  rw [P87_31]
  exact w_some o_wp1w3x
theorem w87_15743 {s21 : Int} {s48 : Bool} {e0_0 : Int} {e0_1 : ByteArray} {e0_2 : ByteArray} {e0_3 : Int} {e0_4 : Int} {e0_5 : ByteArray} {e1_0 : Int} {e1_1 : ByteArray} {e1_2 : ByteArray} {e1_3 : Int} {e1_4 : Int} {e1_5 : ByteArray} {e2_0 : Int} {e2_1 : ByteArray} {e2_2 : ByteArray} {e2_3 : Int} {e2_4 : Int} {e2_5 : ByteArray} (p0 : e0_3.natAbs ≤ 4000000000) (p1 : e0_4.natAbs ≤ 4000000000) (p2 : e2_3.natAbs ≤ 4000000000) (p3 : e2_4.natAbs ≤ 4000000000) : Wp (L87_15743 s21 s48 e0_0 e0_1 e0_2 e0_3 e0_4 e0_5 e1_0 e1_1 e1_2 e1_3 e1_4 e1_5 e2_0 e2_1 e2_2 e2_3 e2_4 e2_5) fun y => y.1.A.natAbs ≤ 4000000000 ∧ y.1.B.natAbs ≤ 4000000000 := by
  rw [P87_15743]
  exact w_ip (fun h1 => (w87_31 o_u5jd7a o_u5jd7a).mono (fun y ⟨q2_0, q2_1⟩ => o_wp1w3x)) (fun h1 => w_ip (fun h3 => (w87_31 o_u5jd7a o_u5jd7a).mono (fun y ⟨q4_0, q4_1⟩ => o_wp1w3x)) (fun h3 => (w87_31 o_u5jd7a o_u5jd7a).mono (fun y ⟨q5_0, q5_1⟩ => o_wp1w3x)))
theorem w87_3935 {s21 : Int} {s37 : Bool} {e0_0 : Int} {e0_1 : ByteArray} {e0_2 : ByteArray} {e0_3 : Int} {e0_4 : Int} {e0_5 : ByteArray} {e1_0 : Int} {e1_1 : ByteArray} {e1_2 : ByteArray} {e1_3 : Int} {e1_4 : Int} {e1_5 : ByteArray} {e2_0 : Int} {e2_1 : ByteArray} {e2_2 : ByteArray} {e2_3 : Int} {e2_4 : Int} {e2_5 : ByteArray} (p0 : e0_3.natAbs ≤ 4000000000) (p1 : e0_4.natAbs ≤ 4000000000) (p2 : e2_3.natAbs ≤ 4000000000) (p3 : e2_4.natAbs ≤ 4000000000) : Wp (L87_3935 s21 s37 e0_0 e0_1 e0_2 e0_3 e0_4 e0_5 e1_0 e1_1 e1_2 e1_3 e1_4 e1_5 e2_0 e2_1 e2_2 e2_3 e2_4 e2_5) fun y => y.1.A.natAbs ≤ 4000000000 ∧ y.1.B.natAbs ≤ 4000000000 := by
  rw [P87_3935]
  exact w_ip (fun h1 => (w87_31 o_u5jd7a o_u5jd7a).mono (fun y ⟨q2_0, q2_1⟩ => o_wp1w3x)) (fun h1 => w_ip (fun h3 => (w87_15743 o_u5jd7a o_u5jd7a o_u5jd7a o_u5jd7a).mono (fun y ⟨q4_0, q4_1⟩ => o_wp1w3x)) (fun h3 => w_ip (fun h5 => (w87_15743 o_u5jd7a o_u5jd7a o_u5jd7a o_u5jd7a).mono (fun y ⟨q6_0, q6_1⟩ => o_wp1w3x)) (fun h5 => (w87_15743 o_u5jd7a o_u5jd7a o_u5jd7a o_u5jd7a).mono (fun y ⟨q7_0, q7_1⟩ => o_wp1w3x))))
theorem w87_983 {s21 : Int} {s28 : Bool} {e0_0 : Int} {e0_1 : ByteArray} {e0_2 : ByteArray} {e0_3 : Int} {e0_4 : Int} {e0_5 : ByteArray} {e1_0 : Int} {e1_1 : ByteArray} {e1_2 : ByteArray} {e1_3 : Int} {e1_4 : Int} {e1_5 : ByteArray} {e2_0 : Int} {e2_1 : ByteArray} {e2_2 : ByteArray} {e2_3 : Int} {e2_4 : Int} {e2_5 : ByteArray} (p0 : e0_3.natAbs ≤ 4000000000) (p1 : e0_4.natAbs ≤ 4000000000) (p2 : e2_3.natAbs ≤ 4000000000) (p3 : e2_4.natAbs ≤ 4000000000) : Wp (L87_983 s21 s28 e0_0 e0_1 e0_2 e0_3 e0_4 e0_5 e1_0 e1_1 e1_2 e1_3 e1_4 e1_5 e2_0 e2_1 e2_2 e2_3 e2_4 e2_5) fun y => y.1.A.natAbs ≤ 4000000000 ∧ y.1.B.natAbs ≤ 4000000000 := by
  rw [P87_983]
  exact w_ip (fun h1 => (w87_31 o_u5jd7a o_u5jd7a).mono (fun y ⟨q2_0, q2_1⟩ => o_wp1w3x)) (fun h1 => w_ip (fun h3 => (w87_3935 o_u5jd7a o_u5jd7a o_u5jd7a o_u5jd7a).mono (fun y ⟨q4_0, q4_1⟩ => o_wp1w3x)) (fun h3 => w_ip (fun h5 => (w87_3935 o_u5jd7a o_u5jd7a o_u5jd7a o_u5jd7a).mono (fun y ⟨q6_0, q6_1⟩ => o_wp1w3x)) (fun h5 => w_ip (fun h7 => (w87_3935 o_u5jd7a o_u5jd7a o_u5jd7a o_u5jd7a).mono (fun y ⟨q8_0, q8_1⟩ => o_wp1w3x)) (fun h7 => w_ip (fun h9 => (w87_3935 o_u5jd7a o_u5jd7a o_u5jd7a o_u5jd7a).mono (fun y ⟨q10_0, q10_1⟩ => o_wp1w3x)) (fun h9 => w_ip (fun h11 => (w87_3935 o_u5jd7a o_u5jd7a o_u5jd7a o_u5jd7a).mono (fun y ⟨q12_0, q12_1⟩ => o_wp1w3x)) (fun h11 => w_ip (fun h13 => (w87_3935 o_u5jd7a o_u5jd7a o_u5jd7a o_u5jd7a).mono (fun y ⟨q14_0, q14_1⟩ => o_wp1w3x)) (fun h13 => (w87_3935 o_u5jd7a o_u5jd7a o_u5jd7a o_u5jd7a).mono (fun y ⟨q15_0, q15_1⟩ => o_wp1w3x))))))))
theorem w87_245 {s21 : Int} {s22 : Bool} {e0_0 : Int} {e0_1 : ByteArray} {e0_2 : ByteArray} {e0_3 : Int} {e0_4 : Int} {e0_5 : ByteArray} {e1_0 : Int} {e1_1 : ByteArray} {e1_2 : ByteArray} {e1_3 : Int} {e1_4 : Int} {e1_5 : ByteArray} {e2_0 : Int} {e2_1 : ByteArray} {e2_2 : ByteArray} {e2_3 : Int} {e2_4 : Int} {e2_5 : ByteArray} (p0 : e0_3.natAbs ≤ 4000000000) (p1 : e0_4.natAbs ≤ 4000000000) (p2 : e2_3.natAbs ≤ 4000000000) (p3 : e2_4.natAbs ≤ 4000000000) : Wp (L87_245 s21 s22 e0_0 e0_1 e0_2 e0_3 e0_4 e0_5 e1_0 e1_1 e1_2 e1_3 e1_4 e1_5 e2_0 e2_1 e2_2 e2_3 e2_4 e2_5) fun y => y.1.A.natAbs ≤ 4000000000 ∧ y.1.B.natAbs ≤ 4000000000 := by
  rw [P87_245]
  exact w_ip (fun h1 => (w87_31 o_u5jd7a o_u5jd7a).mono (fun y ⟨q2_0, q2_1⟩ => o_wp1w3x)) (fun h1 => w_ip (fun h3 => (w87_983 o_u5jd7a o_u5jd7a o_u5jd7a o_u5jd7a).mono (fun y ⟨q4_0, q4_1⟩ => o_wp1w3x)) (fun h3 => (w87_983 o_u5jd7a o_u5jd7a o_u5jd7a o_u5jd7a).mono (fun y ⟨q5_0, q5_1⟩ => o_wp1w3x)))
theorem w87_15 {e0_0 : Int} {e0_1 : ByteArray} {e0_2 : ByteArray} {e0_3 : Int} {e0_4 : Int} {e0_5 : ByteArray} {e1_0 : Int} {e1_1 : ByteArray} {e1_2 : ByteArray} {e1_3 : Int} {e1_4 : Int} {e1_5 : ByteArray} {e2_0 : Int} {e2_1 : ByteArray} {e2_2 : ByteArray} {e2_3 : Int} {e2_4 : Int} {e2_5 : ByteArray} (p0 : e0_3.natAbs ≤ 4000000000) (p1 : e0_4.natAbs ≤ 4000000000) (p2 : e2_3.natAbs ≤ 4000000000) (p3 : e2_4.natAbs ≤ 4000000000) : Wp (L87_15 e0_0 e0_1 e0_2 e0_3 e0_4 e0_5 e1_0 e1_1 e1_2 e1_3 e1_4 e1_5 e2_0 e2_1 e2_2 e2_3 e2_4 e2_5) fun y => y.1.A.natAbs ≤ 4000000000 ∧ y.1.B.natAbs ≤ 4000000000 := by
  rw [P87_15]
  exact w_ip (fun h1 => (w87_245 o_u5jd7a o_u5jd7a o_u5jd7a o_u5jd7a).mono (fun y ⟨q2_0, q2_1⟩ => o_wp1w3x)) (fun h1 => (w87_245 o_u5jd7a o_u5jd7a o_u5jd7a o_u5jd7a).mono (fun y ⟨q3_0, q3_1⟩ => o_wp1w3x))
theorem w87_117 {s9 : Bool} {e0_0 : Int} {e0_1 : ByteArray} {e0_2 : ByteArray} {e0_3 : Int} {e0_4 : Int} {e0_5 : ByteArray} {e1_0 : Int} {e1_1 : ByteArray} {e1_2 : ByteArray} {e1_3 : Int} {e1_4 : Int} {e1_5 : ByteArray} {e2_0 : Int} {e2_1 : ByteArray} {e2_2 : ByteArray} {e2_3 : Int} {e2_4 : Int} {e2_5 : ByteArray} (p0 : e0_3.natAbs ≤ 4000000000) (p1 : e0_4.natAbs ≤ 4000000000) (p2 : e2_3.natAbs ≤ 4000000000) (p3 : e2_4.natAbs ≤ 4000000000) : Wp (L87_117 s9 e0_0 e0_1 e0_2 e0_3 e0_4 e0_5 e1_0 e1_1 e1_2 e1_3 e1_4 e1_5 e2_0 e2_1 e2_2 e2_3 e2_4 e2_5) fun y => y.1.A.natAbs ≤ 4000000000 ∧ y.1.B.natAbs ≤ 4000000000 := by
  rw [P87_117]
  exact w_ip (fun h1 => (w87_15 o_u5jd7a o_u5jd7a o_u5jd7a o_u5jd7a).mono (fun y ⟨q2_0, q2_1⟩ => o_wp1w3x)) (fun h1 => (w87_15 o_u5jd7a o_u5jd7a o_u5jd7a o_u5jd7a).mono (fun y ⟨q3_0, q3_1⟩ => o_wp1w3x))
theorem c87 {x0 : Fw.Call} (p0 : x0.A.natAbs ≤ 4000000000) (p1 : x0.B.natAbs ≤ 4000000000) : Wp (D87 x0) fun y => y.1.A.natAbs ≤ 4000000000 ∧ y.1.B.natAbs ≤ 4000000000 := by
  rw [E87]
  exact w_ip (fun h1 => (w87_117 o_u5jd7a o_u5jd7a o_u5jd7a o_u5jd7a).mono (fun y ⟨q2_0, q2_1⟩ => o_wp1w3x)) (fun h1 => w_ip (fun h3 => (w87_117 o_u5jd7a o_u5jd7a o_u5jd7a o_u5jd7a).mono (fun y ⟨q4_0, q4_1⟩ => o_wp1w3x)) (fun h3 => w_ip (fun h5 => (w87_117 o_u5jd7a o_u5jd7a o_u5jd7a o_u5jd7a).mono (fun y ⟨q6_0, q6_1⟩ => o_wp1w3x)) (fun h5 => w_ip (fun h7 => (w87_117 o_u5jd7a o_u5jd7a o_u5jd7a o_u5jd7a).mono (fun y ⟨q8_0, q8_1⟩ => o_wp1w3x)) (fun h7 => w_ip (fun h9 => (w87_117 o_u5jd7a o_u5jd7a o_u5jd7a o_u5jd7a).mono (fun y ⟨q10_0, q10_1⟩ => o_wp1w3x)) (fun h9 => w_ip (fun h11 => (w87_117 o_u5jd7a o_u5jd7a o_u5jd7a o_u5jd7a).mono (fun y ⟨q12_0, q12_1⟩ => o_wp1w3x)) (fun h11 => (w87_117 o_u5jd7a o_u5jd7a o_u5jd7a o_u5jd7a).mono (fun y ⟨q13_0, q13_1⟩ => o_wp1w3x)))))))
theorem w50_511 {e0_0 : List UInt8} {e0_1 : Int} {e0_2 : Int} {e1_0 : Int} {e1_1 : ByteArray} {e1_2 : ByteArray} {e1_3 : Int} {e1_4 : Int} {e1_5 : ByteArray} {e2_0 : Int} {e2_1 : ByteArray} {e2_2 : ByteArray} {e2_3 : Int} {e2_4 : Int} {e2_5 : ByteArray} (p0 : Cu ⟨e0_0, e0_1, e0_2⟩) (p1 : e2_3.natAbs ≤ 4000000000) (p2 : e2_4.natAbs ≤ 4000000000) : Wp (L50_511 e0_0 e0_1 e0_2 e1_0 e1_1 e1_2 e1_3 e1_4 e1_5 e2_0 e2_1 e2_2 e2_3 e2_4 e2_5) fun y => y.1.A.natAbs ≤ 4000000000 ∧ y.1.B.natAbs ≤ 4000000000 ∧ Cu y.2.1 := by
  rw [P50_511]
  exact w_bd (c87 o_u5jd7a o_u5jd7a) (fun y0 ⟨q1_0, q1_1⟩ => w_some o_8zh98w)
theorem c50 {x0 : L01Cur} (p0 : Cu x0) : Wp (D50 x0) fun y => y.1.A.natAbs ≤ 4000000000 ∧ y.1.B.natAbs ≤ 4000000000 ∧ Cu y.2.1 := by
  rw [E50]
  exact w_bd (c51 o_7nn0cg o_7nn0cg) (fun y0 ⟨q1_0, q1_1⟩ => w_bd (c85 o_7nn0cg o_7nn0cg) (fun y1 ⟨q2_0, q2_1⟩ => w_bd (c85 o_7nn0cg o_7nn0cg) (fun y2 ⟨q3_0, q3_1⟩ => w_bd (c26 o_7nn0cg) (fun y3 ⟨q4_0, q4_1, q4_2⟩ => w_bd (c26 o_7nn0cg) (fun y4 ⟨q5_0, q5_1, q5_2⟩ => w_bd (c26 o_7nn0cg) (fun y5 ⟨q6_0, q6_1, q6_2⟩ => w_bd (c86 o_7nn0cg) (fun y6 ⟨q7_0, q7_1⟩ => w_ip (fun h8 => w_bd (c26 o_7nn0cg) (fun y7 ⟨q9_0, q9_1, q9_2⟩ => (w50_511 o_7nn0cg o_7nn0cg o_7nn0cg).mono (fun y ⟨q10_0, q10_1, q10_2⟩ => o_8zh98w))) (fun h8 => (w50_511 o_7nn0cg o_7nn0cg o_7nn0cg).mono (fun y ⟨q11_0, q11_1, q11_2⟩ => o_8zh98w)))))))))
theorem w36_120831 {s3 : Int} {s8 : Int} {s35 : Bool} {e0_0 : List UInt8} {e0_1 : Int} {e0_2 : Int} {e1_0 : Int} {e1_1 : Int} {e1_2 : Int} {e1_3 : Int} {e1_4 : ByteArray} {e1_5 : ByteArray} {e1_6 : Int} {e1_7 : Int} {e1_8 : ByteArray} (p0 : s3.natAbs ≤ 4000000000) (p1 : Cu ⟨e0_0, e0_1, e0_2⟩) : Wp (L36_120831 s3 s8 s35 e0_0 e0_1 e0_2 e1_0 e1_1 e1_2 e1_3 e1_4 e1_5 e1_6 e1_7 e1_8) fun y => DeB y.1 ∧ Cu y.2.1 := by
  rw [P36_120831]
  exact w_ip (fun h1 => w_bd (c26 o_u5jd7a) (fun y2 ⟨q2_0, q2_1, q2_2⟩ => w_bd (c50 o_u5jd7a) (fun y3 ⟨q3_0, q3_1, q3_2⟩ => w_some o_p0ko5k))) (fun h1 => w_ip (fun h4 => w_some o_p0ko5k) (fun h4 => w_ip (fun h5 => w_some o_p0ko5k) (fun h5 => w_ip (fun h6 => w_some o_p0ko5k) (fun h6 => w_ip (fun h7 => w_bd (c51 o_u5jd7a o_u5jd7a) (fun y1 ⟨q8_0, q8_1⟩ => w_some o_p0ko5k)) (fun h7 => w_ip (fun h9 => w_some o_p0ko5k) (fun h9 => w_bd (c50 o_u5jd7a) (fun y0 ⟨q10_0, q10_1, q10_2⟩ => w_some o_p0ko5k)))))))
theorem w36_30207 {s3 : Int} {s8 : Int} {s29 : Bool} {e0_0 : List UInt8} {e0_1 : Int} {e0_2 : Int} {e1_0 : Int} {e1_1 : Int} {e1_2 : Int} {e1_3 : Int} {e1_4 : ByteArray} {e1_5 : ByteArray} {e1_6 : Int} {e1_7 : Int} {e1_8 : ByteArray} (p0 : s3.natAbs ≤ 4000000000) (p1 : Cu ⟨e0_0, e0_1, e0_2⟩) : Wp (L36_30207 s3 s8 s29 e0_0 e0_1 e0_2 e1_0 e1_1 e1_2 e1_3 e1_4 e1_5 e1_6 e1_7 e1_8) fun y => DeB y.1 ∧ Cu y.2.1 := by
  rw [P36_30207]
  exact w_ip (fun h1 => w_some o_p0ko5k) (fun h1 => w_ip (fun h2 => (w36_120831 o_u5jd7a o_u5jd7a).mono (fun y ⟨q3_0, q3_1⟩ => o_p0ko5k)) (fun h2 => (w36_120831 o_u5jd7a o_u5jd7a).mono (fun y ⟨q4_0, q4_1⟩ => o_p0ko5k)))
theorem w36_117 {s3 : Int} {s8 : Int} {s9 : Bool} {e0_0 : List UInt8} {e0_1 : Int} {e0_2 : Int} {e1_0 : Int} {e1_1 : Int} {e1_2 : Int} {e1_3 : Int} {e1_4 : ByteArray} {e1_5 : ByteArray} {e1_6 : Int} {e1_7 : Int} {e1_8 : ByteArray} (p0 : s3.natAbs ≤ 4000000000) (p1 : Cu ⟨e0_0, e0_1, e0_2⟩) : Wp (L36_117 s3 s8 s9 e0_0 e0_1 e0_2 e1_0 e1_1 e1_2 e1_3 e1_4 e1_5 e1_6 e1_7 e1_8) fun y => DeB y.1 ∧ Cu y.2.1 := by
  rw [P36_117]
  exact w_ip (fun h1 => w_bd (c26 o_u5jd7a) (fun y0 ⟨q2_0, q2_1, q2_2⟩ => w_some o_p0ko5k)) (fun h1 => w_ip (fun h3 => w_some o_p0ko5k) (fun h3 => w_ip (fun h4 => w_some o_p0ko5k) (fun h4 => w_ip (fun h5 => w_some o_p0ko5k) (fun h5 => w_ip (fun h6 => (w36_30207 o_u5jd7a o_u5jd7a).mono (fun y ⟨q7_0, q7_1⟩ => o_p0ko5k)) (fun h6 => w_ip (fun h8 => (w36_30207 o_u5jd7a o_u5jd7a).mono (fun y ⟨q9_0, q9_1⟩ => o_p0ko5k)) (fun h8 => (w36_30207 o_u5jd7a o_u5jd7a).mono (fun y ⟨q10_0, q10_1⟩ => o_p0ko5k)))))))
theorem c36 {x0 : L01Cur} (p0 : Cu x0) : Wp (D36 x0) fun y => DeB y.1 ∧ Cu y.2.1 := by
  rw [E36]
  exact w_bd (c26 o_u5jd7a) (fun y0 ⟨q1_0, q1_1, q1_2⟩ => w_bd (c26 o_u5jd7a) (fun y1 ⟨q2_0, q2_1, q2_2⟩ => w_ip (fun h3 => (w36_117 o_u5jd7a o_u5jd7a).mono (fun y ⟨q4_0, q4_1⟩ => o_6mduzb)) (fun h3 => w_ip (fun h5 => (w36_117 o_u5jd7a o_u5jd7a).mono (fun y ⟨q6_0, q6_1⟩ => o_6mduzb)) (fun h5 => (w36_117 o_u5jd7a o_u5jd7a).mono (fun y ⟨q7_0, q7_1⟩ => o_6mduzb)))))
theorem c35 : Wp (D35) fun y => y.1.length = 6 ∧ DeL y.1 := by
  rw [E35]
  exact w_some o_s6ctpy
theorem w32_244{m : Nat} (N : Nat) : ∀ {s1 : Int} {s6 : Int} {e0_0 : List UInt8} {e0_1 : Int} {e0_2 : Int} {e1 : List Fw.Deed} (p0 : 0 ≤ s6) (p1 : s6 ≤ s1) (p2 : s1 ≤ 100) (p3 : Cu ⟨e0_0, e0_1, e0_2⟩) (p4 : DeL e1) (p5 : (e1.length : Int) ≤ m + s6) (p6 : m ≤ 6) (hN : s1 - s6 + 1 ≤ (N : Int)), Wp (L32_244 s1 s6 e0_0 e0_1 e0_2 e1) fun y => (y.1.length : Int) ≤ m + s1 ∧ DeL y.1 ∧ Cu y.2.1 := by
  induction N using Nat.strongRecOn with
  | ind N ih =>
    intro s1 s6 e0_0 e0_1 e0_2 e1 p0 p1 p2 p3 p4 p5 p6 hN
    rw [P32_244]
    exact w_bd (c26 o_0rskrm) (fun y0 ⟨q1_0, q1_1, q1_2⟩ => w_ip (fun h2 => w_bd (c36 o_0rskrm) (fun y1 ⟨q3_0, q3_1⟩ => w_gp o_0rskrm (ih (N - 1) o_0rskrm o_0rskrm o_0rskrm o_0rskrm o_0rskrm o_0rskrm o_0rskrm o_0rskrm ob12))) (fun h2 => w_eq (P32_31 _ _ _ _) (w_some o_13lo8d)))
theorem w32_15{m : Nat} {s1 : Int} {e0_0 : List UInt8} {e0_1 : Int} {e0_2 : Int} {e1 : List Fw.Deed} (p0 : 0 ≤ s1) (p1 : s1 ≤ 100) (p2 : Cu ⟨e0_0, e0_1, e0_2⟩) (p3 : DeL e1) (p4 : e1.length ≤ m) (p5 : m ≤ 6) : Wp (L32_15 s1 e0_0 e0_1 e0_2 e1) fun y => (y.1.length : Int) ≤ m + s1 ∧ DeL y.1 ∧ Cu y.2.1 := by
  rw [P32_15]
  exact (w32_244 (m := m) _ ob12 ob12 ob12 ob12 ob12 ob12 ob12 (Int.self_le_toNat _)).mono (fun y ⟨q1_0, q1_1, q1_2⟩ => o_8zh98w)
theorem c32 {x0 : L01Cur} {x1 : Int} (p0 : Cu x0) (p1 : 0 ≤ x1) (p2 : x1 ≤ 100) : Wp (D32 x0 x1) fun y => (y.1.length : Int) ≤ 6 + x1 ∧ DeL y.1 ∧ Cu y.2.1 := by
  rw [E32]
  exact w_bd (c29 o_3yfgwi) (fun y0 q1 => w_ip (fun h2 => w_bd (c35) (fun y1 ⟨q3_0, q3_1⟩ => (w32_15 (m := 6) o_3yfgwi o_3yfgwi o_3yfgwi o_3yfgwi o_3yfgwi o_3yfgwi).mono (fun y ⟨q4_0, q4_1, q4_2⟩ => o_8zh98w))) (fun h2 => (w32_15 (m := 6) o_3yfgwi o_3yfgwi o_3yfgwi o_3yfgwi o_3yfgwi o_3yfgwi).mono (fun y ⟨q5_0, q5_1, q5_2⟩ => o_8zh98w)))
theorem c28 {x0 : L01Cur} (p0 : Cu x0) : Wp (D28 x0) fun y => KB 27 746200007800 y.1 ∧ Cu y.2.1 := by
  rw [E28]
  exact w_bd (c32 ob12 ob12 ob12) (fun y0 ⟨q1_0, q1_1, q1_2⟩ => w_bd (c31 ob12 ob12) (fun y1 ⟨q2_0, q2_1⟩ => w_some o_6mduzb))
theorem c21 {x0 : List UInt8} (p0 : x0.length ≤ 1048576) : Wp (D21 x0) fun y => KB 27 746200007800 y.1 := by
  rw [E21]
  exact w_bd (c25 ob12) (fun y0 q1 => w_bd (c28 ob12) (fun y1 ⟨q2_0, q2_1⟩ => w_some o_21uf74))
end Go.Proofs.YtdghkmbppfmifaaGreatDoor.Ri

namespace Go.Proofs.YtdghkmbppfmifaaGreatDoor.Ri
open Go.Proofs.YtdghkmbppfmifaaGreatDoor.Fw
set_option linter.unusedVariables false
set_option linter.unusedSimpArgs false
set_option maxRecDepth 100000
theorem itoaS_size (n : Int) : (itoaS n).size ≤ 21 := by
  unfold itoaS
  exact Lib.itoa_length_le _ (by rw [IntKind.wrap_i64]; omega) (by rw [IntKind.wrap_i64]; omega)
theorem joinS5 (a b c d e : ByteArray) : joinS [a, b, c, d, e] (tx [32]) = a ++ tx [32] ++ b ++ tx [32] ++ c ++ tx [32] ++ d ++ tx [32] ++ e := by
  apply ByteArray.ext
  apply Array.toList_inj.1
  simp [joinS, Lib.join_cons, Lib.joinTail, tx, ByteArray.data_append, List.append_assoc]
def stS (s : Int) : ByteArray := bif decide (s ≥ 1) && decide (s ≤ 3) then nth [(tx [108, 105, 118, 101]), (tx [119, 104, 111, 108, 101]), (tx [100, 114, 111, 112, 112, 101, 100])] (IntKind.wrap .i64 (s - 1)).toNat else tx [63]
theorem nth3_size {i : Nat} : (nth [(tx [108, 105, 118, 101]), (tx [119, 104, 111, 108, 101]), (tx [100, 114, 111, 112, 112, 101, 100])] i).size ≤ 7 := by
  match i with
  | 0 => decide
  | 1 => decide
  | 2 => decide
  | _ + 3 => exact (by decide : (ByteArray.empty).size ≤ 7)
theorem nth2_size {i : Nat} : (nth [(tx [112, 108, 97, 105, 110]), (tx [119, 104, 111, 108, 101])] i).size ≤ 5 := by
  match i with
  | 0 => decide
  | 1 => decide
  | _ + 2 => exact (by decide : (ByteArray.empty).size ≤ 5)
theorem stS_size (s : Int) : (stS s).size ≤ 7 := by
  unfold stS
  cases decide (s ≥ 1) && decide (s ≤ 3)
  · exact (by decide : (tx [63]).size ≤ 7)
  · exact nth3_size
def txl (x : Fw.Tx) : ByteArray := joinS [itoaS x.Id, itoaS x.Age, itoaS x.Proc, stS x.State, itoaS x.Calls.length] (tx [32])
theorem txl_end (x : Fw.Tx) : ∃ a, txl x = a ++ itoaS x.Calls.length := ⟨_, joinS5 _ _ _ _ _⟩
theorem cutS_end (a b : ByteArray) (i j : Nat) (hi : i = a.size) (hj : j = (a ++ b).size) : cutS (a ++ b) i j = b := by
  subst hi hj
  unfold cutS
  rw [ByteArray.size_append]
  exact ByteArray.extract_append_eq_right rfl rfl
theorem joinS5_size (a b c d e : ByteArray) (h1 : a.size ≤ 21) (h2 : b.size ≤ 21) (h3 : c.size ≤ 21) (h4 : d.size ≤ 21) (h5 : e.size ≤ 21) : (joinS [a, b, c, d, e] (tx [32])).size ≤ 140737488355328 := by
  have e1 : (tx [32]).size = 1 := rfl
  rw [joinS5]
  simp only [ByteArray.size_append, e1]
  omega
theorem stS_in {s : Int} (h : s ≥ 1 ∧ s ≤ 3) : stS s = nth [(tx [108, 105, 118, 101]), (tx [119, 104, 111, 108, 101]), (tx [100, 114, 111, 112, 112, 101, 100])] (IntKind.wrap .i64 (s - 1)).toNat := by
  unfold stS
  rw [decide_eq_true h.1, decide_eq_true h.2]
  rfl
theorem stS_out {s : Int} (h : ¬(s ≥ 1 ∧ s ≤ 3)) : stS s = tx [63] := by
  unfold stS
  have : (decide (s ≥ 1) && decide (s ≤ 3)) = false := by
    rw [Bool.and_eq_false_iff, decide_eq_false_iff_not, decide_eq_false_iff_not]
    exact Decidable.not_and_iff_or_not.1 h
  rw [this]
  rfl
theorem tmap {α β : Type} [Inhabited α] {f : α → β} {l : List α} {i : Int} (h0 : 0 ≤ i) (h1 : i < l.length) (h2 : i ≤ 1000) {e : List β} (he : e = (l.take i.toNat).map f) : e ++ [f (nth l i.toNat)] = (l.take (IntKind.wrap .i64 (i + 1)).toNat).map f := by
  have hl : i.toNat < l.length := by omega
  have en : nth l i.toNat = l[i.toNat] := by unfold Fw.nth; simp [hl]
  rw [i64_id (by omega) (by omega), show (i + 1).toNat = i.toNat + 1 by omega, List.take_succ_eq_append_getElem hl, List.map_append, he, en]
  rfl
theorem tmap_end {α β : Type} {f : α → β} {l : List α} {i : Int} (h1 : l.length ≤ i) {e : List β} (he : e = (l.take i.toNat).map f) : e = l.map f := by rw [he, List.take_of_length_le (by omega)]
theorem nth_map {α β : Type} [Inhabited α] [Inhabited β] {f : α → β} {l : List α} {i : Nat} (h : i < l.length) : nth (l.map f) i = f (nth l i) := by unfold Fw.nth; simp [h]
theorem txl_size (x : Fw.Tx) : (txl x).size ≤ 140737488355328 := joinS5_size _ _ _ _ _ (itoaS_size _) (itoaS_size _) (itoaS_size _) (Nat.le_trans (stS_size _) (by decide)) (itoaS_size _)
theorem itoa_d {n : Int} (h : 0 ≤ n) (h' : n < 10) : itoaS n = tx [UInt8.ofNat (48 + n.toNat)] := by
  unfold itoaS tx
  rw [i64_id (by omega) (by omega)]
  unfold Lib.itoa
  rw [if_neg (by omega), Lib.decDigits, dif_pos (by omega)]
theorem txl_one : txl (⟨1, 2, 3, 0, [], [], (⟨[], []⟩ : Fw.Touch), [], 1⟩ : Fw.Tx) = tx [49, 32, 50, 32, 51, 32, 108, 105, 118, 101, 32, 48] := by
  have h0 : itoaS (([] : List Fw.Call).length : Int) = tx [48] := itoa_d (by decide) (by decide)
  unfold txl
  simp only
  rw [joinS5, h0, itoa_d (n := 1) (by decide) (by decide), itoa_d (n := 2) (by decide) (by decide), itoa_d (n := 3) (by decide) (by decide)]
  decide +kernel
theorem o_v09h2z {p : Prop} (h : p := by (try dsimp only); first | done | rfl) : p := h
theorem o_ynabnp {p : Prop} (h : p := by first | assumption | exact joinS5_size _ _ _ _ _ (itoaS_size _) (itoaS_size _) (itoaS_size _) (by assumption) (itoaS_size _) | (simp only [List.length_cons, List.length_nil]; omega)) : p := h
theorem o_gqywo3 {p : Prop} (h : p := by (try dsimp only); (intro hh; simp at hh; omega)) : p := h
theorem o_1sifdd {p : Prop} (h : p := by first | assumption | decide | exact Nat.le_trans nth3_size (by decide) | (simp (disch := omega) only [i64_id]; omega) | exact ob12) : p := h
theorem o_onlm95 {p : Prop} (h : p := by (try dsimp only); (refine Prod.ext ((‹_ = joinS _ _›).trans ?_) rfl; unfold txl; first | rw [stS_in (by assumption)] | rw [stS_out (by assumption)])) : p := h
theorem o_fni9dd {p : Prop} (h : p := by first | assumption | omega | (have hl := tmap_len p4; simp only [List.length_append, List.length_cons, List.length_nil]; omega) | exact tmap p0 (by omega) (by omega) p4 | exact tmap1 p0 (by omega) (by omega) p4 | exact ob12) : p := h
theorem o_hsi68j {p : Prop} (h : p := by (try dsimp only); exact tmap_end (by omega) p4) : p := h
theorem o_kia2vp {p : Prop} (h : p := by (try dsimp only); first | assumption | exact tmap_end (by omega) p4) : p := h
theorem o_mzznia {p : Prop} (h : p := by first | assumption | omega | (have z1 := itoaS_size e0_0; have z2 := itoaS_size (e0_3.length : Int); have z3 : (tx [32]).size = 1 := rfl; have z4 : (tx [32, 42]).size = 2 := rfl; (try simp only [ByteArray.size_append]); omega)) : p := h
theorem o_wlad1l {p : Prop} (h : p := by first | assumption | decide | exact Nat.le_trans nth2_size (by decide) | (simp (disch := omega) only [i64_id]; omega) | exact ob12) : p := h
theorem o_irdwj {p : Prop} (h : p := by first | assumption | omega | (simp only [List.length_append, List.length_cons, List.length_nil]; simp (disch := omega) only [i64_id]; omega) | exact ob12) : p := h
theorem o_aexv55 {p : Prop} (h : p := by first | assumption | omega | (subst p4; first | rfl | decide) | exact ob12) : p := h
theorem o_a7ezq1 {p : Prop} (h : p := by (try dsimp only); first | assumption | (dsimp only [List.length_nil]; omega)) : p := h
theorem o_j62tyn {p : Prop} (h : p := by (try dsimp only); first | done | exact decide_eq_true txl_one | (exfalso; rw [p0, List.length_map] at *; omega)) : p := h
theorem o_68e059 {p : Prop} (h : p := by (try dsimp only); first | done | rfl | assumption) : p := h
theorem o_33vg7q {p : Prop} (h : p := by first | assumption | omega | exact Nat.le_trans (‹KB _ _ _›).xn (by decide) | exact Nat.le_trans (‹KB _ _ _›).hn (by decide) | exact ob12) : p := h
theorem c2032 {x0 : Int} : D2032 x0 = some (itoaS x0, ()) := by
  rw [E2032]; rfl
theorem c2034 {x0 : List ByteArray} {x1 : ByteArray} (p0 : (joinS x0 x1).size ≤ 140737488355328) (p1 : x0.length ≤ 140737488355328) : D2034 x0 x1 = some (joinS x0 x1, ()) := by
  rw [E2034]; unfold joinX; rw [Nat.ble_eq_true_of_le p0, Nat.ble_eq_true_of_le p1]; rfl
theorem c2010w {x0 : Int} : Wp (D2010 x0) fun y => y = (itoaS x0, ()) := by
  rw [E2010]
  exact w_be (c2032) (by (try dsimp only); exact (w_some o_v09h2z))
theorem c2010 {x0 : Int} : D2010 x0 = some (itoaS x0, ()) := wp_eq (c2010w)
theorem w2011_15 {s3 : ByteArray} {e0_0 : Int} {e0_1 : Int} {e0_2 : Int} {e0_3 : Int} {e0_4 : List Fw.Call} {e0_5 : List Fw.Answer} {e0_6 : List ByteArray} {e0_7 : List ByteArray} {e0_8 : List Int} {e0_9 : Int} (p0 : s3.size ≤ 21) : Wp (L2011_15 s3 e0_0 e0_1 e0_2 e0_3 e0_4 e0_5 e0_6 e0_7 e0_8 e0_9) fun y => y.1 = joinS [itoaS e0_0, itoaS e0_1, itoaS e0_2, s3, itoaS e0_4.length] (tx [32]) := by
  rw [P2011_15]
  exact w_be (c2010) (by (try dsimp only); exact (w_be (c2010) (by (try dsimp only); exact (w_be (c2010) (by (try dsimp only); exact (w_be (c2010) (by (try dsimp only); exact (w_be (c2034 o_ynabnp o_ynabnp) (by (try dsimp only); exact (w_some o_v09h2z))))))))))
theorem c5 {x0 : List UInt8} : Wp (D5 x0) fun y => (¬ y.1 = true → x0.length ≤ 1048576) := by
  rw [E5]
  exact w_some o_gqywo3
theorem c23 {x0 : Int} {x1 : Int} {x2 : Int} : D23 x0 x1 x2 = some (decide (x0 ≥ x1) && decide (x0 ≤ x2), ()) := by
  exact E23 _ _ _
theorem c2011w {x0 : Fw.Tx} : Wp (D2011 x0) fun y => y = (txl x0, ()) := by
  rw [E2011]
  exact w_be (c23) (by (try dsimp only); exact (w_ip (fun h2 => w_gp o_1sifdd ((w2011_15 o_1sifdd).mono (fun y q3 => o_onlm95))) (fun h2 => (w2011_15 o_1sifdd).mono (fun y q4 => o_onlm95))))
theorem c2011 {x0 : Fw.Tx} : D2011 x0 = some (txl x0, ()) := wp_eq (c2011w)
theorem w2008_116b (N : Nat) : ∀ {s6 : List Fw.Tx} {s7 : Int} {s8 : Int} {e0 : List ByteArray} (p0 : 0 ≤ s8) (p1 : s8 ≤ s6.length) (p2 : s6.length ≤ 1000) (p3 : s7 = s6.length) (p4 : e0 = (s6.take s8.toNat).map txl) (hN : s6.length - s8 ≤ (N : Int)), Wp (L2008_116b s6 s7 s8 e0) fun y => y.1 = s6.map txl := by
  induction N using Nat.strongRecOn with
  | ind N ih =>
    intro s6 s7 s8 e0 p0 p1 p2 p3 p4 hN
    rw [P2008_116b]
    exact w_ip (fun h1 => w_gp o_fni9dd (w_be (c2011) (by (try dsimp only); exact (w_gp o_fni9dd (ih (N - 1) o_fni9dd o_fni9dd o_fni9dd o_fni9dd o_fni9dd o_fni9dd ob12))))) (fun h1 => w_eq (P2008_15b _) (w_some o_hsi68j))
theorem w2008_116 (N : Nat) : ∀ {s6 : List Fw.Tx} {s7 : Int} {s8 : Int} (p0 : 0 ≤ s8) (p1 : s8 ≤ s6.length) (p2 : s6.length ≤ 1000) (p3 : s7 = s6.length) (p4 : [] = (s6.take s8.toNat).map txl) (hN : s6.length - s8 ≤ (N : Int)), Wp (L2008_116 s6 s7 s8) fun y => y.1 = s6.map txl := by
  induction N using Nat.strongRecOn with
  | ind N ih =>
    intro s6 s7 s8 p0 p1 p2 p3 p4 hN
    rw [P2008_116]
    exact w_ip (fun h1 => w_gp o_fni9dd (w_be (c2011) (by (try dsimp only); exact (w_gp o_fni9dd ((w2008_116b _ o_fni9dd o_fni9dd o_fni9dd o_fni9dd o_fni9dd (Int.self_le_toNat _)).mono (fun y q3 => o_kia2vp)))))) (fun h1 => w_eq (P2008_15) (w_some o_kia2vp))
theorem c2008 {x0 : List Fw.Tx} (p0 : x0.length ≤ 1000) : Wp (D2008 x0) fun y => y.1 = x0.map txl := by
  rw [E2008]
  exact (w2008_116 _ o_ok3k2u o_ok3k2u o_ok3k2u o_ok3k2u o_ok3k2u (Int.self_le_toNat _)).mono (fun y q1 => o_21uf74)
theorem w2021_15 {s3 : ByteArray} {e0_0 : Int} {e0_1 : Int} {e0_2 : Int} {e0_3 : List Fw.Step} {e0_4 : List Fw.Answer} {e0_5 : Int} {e0_6 : Int} {e0_7 : Bool} (p0 : s3.size ≤ 21) : Wp (L2021_15 s3 e0_0 e0_1 e0_2 e0_3 e0_4 e0_5 e0_6 e0_7) fun y => True := by
  rw [P2021_15]
  exact w_be (c2010) (by (try dsimp only); exact (w_gp o_mzznia (w_gp o_mzznia (w_gp o_mzznia (w_be (c2010) (by (try dsimp only); exact (w_gp o_mzznia (w_ip (fun h3 => w_gp o_mzznia (w_eq (P2021_63 _) (w_some trivial))) (fun h3 => w_eq (P2021_63 _) (w_some trivial))))))))))
theorem c2021 {x0 : Fw.Entry} : Wp (D2021 x0) fun y => True := by
  rw [E2021]
  exact w_be (c23) (by (try dsimp only); exact (w_ip (fun h2 => w_gp o_wlad1l ((w2021_15 o_wlad1l))) (fun h2 => (w2021_15 o_wlad1l))))
theorem w2009_116b (N : Nat) : ∀ {s6 : List Fw.Entry} {s7 : Int} {s8 : Int} {e0 : List ByteArray} (p0 : 0 ≤ s8) (p1 : s8 ≤ s6.length) (p2 : s6.length ≤ 1000) (p3 : s7 = s6.length) (p4 : (e0.length : Int) = s8) (hN : s6.length - s8 ≤ (N : Int)), Wp (L2009_116b s6 s7 s8 e0) fun y => y.1.length = s6.length := by
  induction N using Nat.strongRecOn with
  | ind N ih =>
    intro s6 s7 s8 e0 p0 p1 p2 p3 p4 hN
    rw [P2009_116b]
    exact w_ip (fun h1 => w_gp o_irdwj (w_bd (c2021) (fun y0 _ => w_gp o_irdwj (ih (N - 1) o_irdwj o_irdwj o_irdwj o_irdwj o_irdwj o_irdwj ob12)))) (fun h1 => w_eq (P2009_15b _) (w_some o_rcke8k))
theorem w2009_116 (N : Nat) : ∀ {s6 : List Fw.Entry} {s7 : Int} {s8 : Int} (p0 : 0 ≤ s8) (p1 : s8 ≤ s6.length) (p2 : s6.length ≤ 1000) (p3 : s7 = s6.length) (p4 : s8 = 0) (hN : s6.length - s8 ≤ (N : Int)), Wp (L2009_116 s6 s7 s8) fun y => y.1.length = s6.length := by
  induction N using Nat.strongRecOn with
  | ind N ih =>
    intro s6 s7 s8 p0 p1 p2 p3 p4 hN
    rw [P2009_116]
    exact w_ip (fun h1 => w_gp o_aexv55 (w_bd (c2021) (fun y0 _ => w_gp o_aexv55 ((w2009_116b _ o_aexv55 o_aexv55 o_aexv55 o_aexv55 o_aexv55 (Int.self_le_toNat _)).mono (fun y q3 => o_a7ezq1))))) (fun h1 => w_eq (P2009_15) (w_some o_a7ezq1))
theorem c2009 {x0 : List Fw.Entry} (p0 : x0.length ≤ 1000) : Wp (D2009 x0) fun y => y.1.length = x0.length := by
  rw [E2009]
  exact (w2009_116 _ o_ok3k2u o_ok3k2u o_ok3k2u o_ok3k2u o_ok3k2u (Int.self_le_toNat _)).mono (fun y q1 => o_21uf74)
theorem w2003_127 {e0_0 : List Fw.Cell} {e0_1 : List Fw.Tx} {e0_2 : List Fw.Slot} {e0_3 : ByteArray} {e0_4 : Int} {e0_5 : Int} {e0_6 : Int} {e0_7 : Int} {e0_8 : List Fw.Entry} {e0_9 : List ByteArray} {e0_10 : Bool} {e1 : List ByteArray} {e2 : List ByteArray} (p0 : e1 = e0_1.map txl) (p1 : e2.length = e0_8.length) : Wp (L2003_127 e0_0 e0_1 e0_2 e0_3 e0_4 e0_5 e0_6 e0_7 e0_8 e0_9 e0_10 e1 e2) fun y => y.1 = true := by
  rw [P2003_127]
  exact w_ip (fun h1 => w_be (c2011) (by (try dsimp only); exact (w_some o_j62tyn))) (fun h1 => w_some o_j62tyn)
theorem w2003_1012 (N : Nat) {s6 : Int} {e0_0 : List Fw.Cell} {e0_1 : List Fw.Tx} {e0_2 : List Fw.Slot} {e0_3 : ByteArray} {e0_4 : Int} {e0_5 : Int} {e0_6 : Int} {e0_7 : Int} {e0_8 : List Fw.Entry} {e0_9 : List ByteArray} {e0_10 : Bool} {e1 : List ByteArray} {e2 : List ByteArray} (p0 : 0 ≤ s6) (p1 : s6 ≤ e0_1.length) (p2 : e0_1.length ≤ 1000) (p3 : e1 = e0_1.map txl) (p4 : e2.length = e0_8.length) (hN : e0_1.length - s6 ≤ (N : Int)) : Wp (L2003_1012 s6 e0_0 e0_1 e0_2 e0_3 e0_4 e0_5 e0_6 e0_7 e0_8 e0_9 e0_10 e1 e2) fun y => y.1 = true := by
  induction N using Nat.strongRecOn generalizing s6 with
  | ind N ih =>
    have hl : e1.length = e0_1.length := by rw [p3, List.length_map]
    rw [P2003_1012]
    refine w_ip (fun h => ?_) fun h => w2003_127 p3 p4
    have hlt : s6.toNat < e0_1.length := by omega
    have e : nth e1 s6.toNat = txl (nth e0_1 s6.toNat) := by rw [p3]; exact nth_map hlt
    obtain ⟨a, ha⟩ := txl_end (nth e0_1 s6.toNat)
    have hb := txl_size (nth e0_1 s6.toNat)
    rw [e]
    refine w_gp (by omega) (w_be c2010 ?_)
    dsimp only
    generalize itoaS ((nth e0_1 s6.toNat).Calls.length : Int) = n at *
    generalize ht : txl (nth e0_1 s6.toNat) = t at *
    have hs : t.size = a.size + n.size := by rw [ha, ByteArray.size_append]
    have hw : IntKind.wrap .i64 ((t.size : Int) - (n.size : Int)) = (a.size : Int) := by rw [i64_id (by omega) (by omega)]; omega
    have hc : cutS t (a.size : Int).toNat (t.size : Int).toNat = n := by rw [ha]; exact cutS_end _ _ _ _ (by omega) (by omega)
    rw [hw, hc]
    refine w_gp (by omega) (w_gp (.inl (by omega)) (w_gp (.inl (by omega)) (w_gp (.inl (by omega)) (w_gp (.inl (by omega)) (w_gp (.inl (by omega)) (w_ip (fun _ => ?_) fun hx => ?_))))))
    · refine w_be c2011 ?_
      dsimp only
      rw [ht]
      refine w_ip (fun hx => absurd rfl hx) fun _ => ih (N - 1) (by omega) (by rw [i64_id (by omega) (by omega)]; omega) (by rw [i64_id (by omega) (by omega)]; omega) (by rw [i64_id (by omega) (by omega)]; omega)
    · exact absurd (fun hy => hy.elim (fun hz => by omega) fun hz => hz rfl) hx
theorem c2003 {x0 : List UInt8} : Wp (D2003 x0) fun y => y.1 = true := by
  rw [E2003]
  exact w_bd (c5) (fun y0 q1 => w_ip (fun h2 => w_some o_68e059) (fun h2 => w_bd (c21 o_33vg7q) (fun y1 q3 => w_bd (c2008 o_33vg7q) (fun y2 q4 => w_bd (c2009 o_33vg7q) (fun y3 q5 => (w2003_1012 _ o_33vg7q o_33vg7q o_33vg7q o_33vg7q o_33vg7q (Int.self_le_toNat _)).mono (fun y q6 => o_68e059))))))
end Go.Proofs.YtdghkmbppfmifaaGreatDoor.Ri

namespace Go.Proofs
open Go.Shelf
def Tryz.lays156_ren : Go.Shelf.Ren := ⟨fun | 156 => 34 | 165 => 65 | 166 => 66 | 169 => 67 | 240 => 108 | 241 => 109 | 276 => 163 | 277 => 164 | n => n, fun | 31 => 32 | 9 => 9 | 3 => 3 | 4 => 4 | 0 => 0 | 20 => 20 | 72 => 109 | 76 => 113 | 70 => 107 | 37 => 22 | 75 => 112 | 127 => 174 | 164 => 229 | 5 => 5 | 80 => 115 | n => n, fun | n => n⟩
theorem Tryz.lays156 : Go.Proofs.Lays.n156 Tryz.prog Tryz.lays156_ren := {
  mixed := by kernel_rfl
  f156 := Tryz.func34.trans (congrArg some (by kernel_rfl))
  f165 := Tryz.func65.trans (congrArg some (by kernel_rfl))
  f166 := Tryz.func66.trans (congrArg some (by kernel_rfl))
  f169 := Tryz.func67.trans (congrArg some (by kernel_rfl))
  f240 := Tryz.func108.trans (congrArg some (by kernel_rfl))
  f241 := Tryz.func109.trans (congrArg some (by kernel_rfl))
  f276 := Tryz.func163.trans (congrArg some (by kernel_rfl))
  f277 := Tryz.func164.trans (congrArg some (by kernel_rfl))
  t0 := Tryz.underlying0
  a0 := Tryz.isAgg0
  z0 := Tryz.sizeOf0
  v0 := Tryz.zeroValue0
  t3 := Tryz.underlying3
  a3 := Tryz.isAgg3
  z3 := Tryz.sizeOf3
  v3 := Tryz.zeroValue3
  t4 := Tryz.underlying4
  a4 := Tryz.isAgg4
  z4 := Tryz.sizeOf4
  v4 := Tryz.zeroValue4
  t9 := Tryz.underlying9
  a9 := Tryz.isAgg9
  z9 := Tryz.sizeOf9
  v9 := Tryz.zeroValue9
  t20 := Tryz.underlying20
  a20 := Tryz.isAgg20
  z20 := Tryz.sizeOf20
  v20 := Tryz.zeroValue20
  t31 := Tryz.underlying32
  a31 := Tryz.isAgg32
  z31 := Tryz.sizeOf32
  v31 := Tryz.zeroValue32
  t37 := Tryz.underlying22
  a37 := Tryz.isAgg22
  z37 := Tryz.sizeOf22
  v37 := Tryz.zeroValue22
  t70 := Tryz.underlying107
  a70 := Tryz.isAgg107
  z70 := Tryz.sizeOf107
  v70 := Tryz.zeroValue107
  t72 := Tryz.underlying109
  a72 := Tryz.isAgg109
  z72 := Tryz.sizeOf109
  v72 := Tryz.zeroValue109
  t75 := Tryz.underlying112
  a75 := Tryz.isAgg112
  z75 := Tryz.sizeOf112
  v75 := Tryz.zeroValue112
  t76 := Tryz.underlying113
  a76 := Tryz.isAgg113
  z76 := Tryz.sizeOf113
  v76 := Tryz.zeroValue113
  t127 := Tryz.underlying174
  a127 := Tryz.isAgg174
  z127 := Tryz.sizeOf174
  v127 := Tryz.zeroValue174
  t164 := Tryz.underlying229
  a164 := Tryz.isAgg229
  z164 := Tryz.sizeOf229
  v164 := Tryz.zeroValue229 }
theorem Tryz.Builder_Extra_156 : Builder.Extra Tryz.prog Tryz.lays156_ren := {
  sizeBuilder := by kernel_rfl
  liesBuilder := by kernel_rfl
  t5 := Tryz.underlying5
  a5 := Tryz.isAgg5
  z5 := Tryz.sizeOf5
  v5 := Tryz.zeroValue5
  infoByte := by kernel_rfl
  cellsByte := by kernel_rfl
  sizeByte := by kernel_rfl
  neB5 := by decide }
open Go.RowKit in
theorem Tryz.strings_Join_none (a : Option Addr) (c : Nat) (sep : ByteArray) (w : World) :
    Calls Tryz.prog 34 #[.slice a 0 c, .string sep] w fun e w' => e = .returned (.string ⟨#[]⟩) ∧ w' = w := Any.strings_Join_none Tryz.lays156 Tryz.Builder_Extra_156 a c sep w
open Go.RowKit in
theorem Tryz.strings_Join (bk o c : Nat) (xs : List ByteArray) (sep : ByteArray) (w : World) (hcells : ∀ (j : Nat) x, xs[j]? = some x → w.cell? ⟨bk, o + j, none⟩ = some (.string x)) (hbk : bk < w.heap.size) (hN : xs.length ≤ 140737488355328) (hcap : xs.length ≤ c) (hlen : (Lib.join (xs.map (·.data.toList)) sep.data.toList).length ≤ 140737488355328) :
    Calls Tryz.prog 34 #[.slice (some ⟨bk, o, none⟩) xs.length c, .string sep] w fun e w' => e = .returned (.string ⟨(Lib.join (xs.map (·.data.toList)) sep.data.toList).toArray⟩) ∧ Below w.heap.size w w' := Any.strings_Join Tryz.lays156 Tryz.Builder_Extra_156 bk o c xs sep w hcells hbk hN hcap hlen
def Tryz.laysM171_ren : Go.Shelf.Ren := ⟨fun | 171 => 32 | 243 => 64 | 246 => 107 | 283 => 159 | 284 => 160 | 285 => 161 | 286 => 162 | 129 => 240 | 317 => 239 | 318 => 241 | 319 => 242 | 320 => 243 | 337 => 325 | 338 => 326 | n => n, fun | 3 => 3 | 9 => 9 | 2 => 2 | 4 => 4 | 171 => 223 | 0 => 0 | 53 => 224 | 37 => 22 | 5 => 5 | 173 => 227 | 212 => 305 | 51 => 306 | 20 => 20 | 213 => 307 | 46 => 232 | 232 => 387 | 233 => 388 | n => n, fun | 17 => 0 | 18 => 2 | 19 => 3 | n => n⟩
theorem Tryz.laysM171 : Go.Proofs.LaysM.n171 Tryz.prog Tryz.laysM171_ren := {
  mixed := by kernel_rfl
  f129 := Tryz.func240.trans (congrArg some (by kernel_rfl))
  f171 := Tryz.func32.trans (congrArg some (by kernel_rfl))
  f243 := Tryz.func64.trans (congrArg some (by kernel_rfl))
  f246 := Tryz.func107.trans (congrArg some (by kernel_rfl))
  f283 := Tryz.func159.trans (congrArg some (by kernel_rfl))
  f284 := Tryz.func160.trans (congrArg some (by kernel_rfl))
  f285 := Tryz.func161.trans (congrArg some (by kernel_rfl))
  f286 := Tryz.func162.trans (congrArg some (by kernel_rfl))
  f317 := Tryz.func239.trans (congrArg some (by kernel_rfl))
  f318 := Tryz.func241.trans (congrArg some (by kernel_rfl))
  f319 := Tryz.func242.trans (congrArg some (by kernel_rfl))
  f320 := Tryz.func243.trans (congrArg some (by kernel_rfl))
  f337 := Tryz.func325.trans (congrArg some (by kernel_rfl))
  f338 := Tryz.func326.trans (congrArg some (by kernel_rfl))
  t0 := Tryz.underlying0
  a0 := Tryz.isAgg0
  z0 := Tryz.sizeOf0
  v0 := Tryz.zeroValue0
  t2 := Tryz.underlying2
  a2 := Tryz.isAgg2
  z2 := Tryz.sizeOf2
  v2 := Tryz.zeroValue2
  t3 := Tryz.underlying3
  a3 := Tryz.isAgg3
  z3 := Tryz.sizeOf3
  v3 := Tryz.zeroValue3
  t4 := Tryz.underlying4
  a4 := Tryz.isAgg4
  z4 := Tryz.sizeOf4
  v4 := Tryz.zeroValue4
  t5 := Tryz.underlying5
  a5 := Tryz.isAgg5
  z5 := Tryz.sizeOf5
  v5 := Tryz.zeroValue5
  t9 := Tryz.underlying9
  a9 := Tryz.isAgg9
  z9 := Tryz.sizeOf9
  v9 := Tryz.zeroValue9
  t20 := Tryz.underlying20
  a20 := Tryz.isAgg20
  z20 := Tryz.sizeOf20
  v20 := Tryz.zeroValue20
  t37 := Tryz.underlying22
  a37 := Tryz.isAgg22
  z37 := Tryz.sizeOf22
  v37 := Tryz.zeroValue22
  t46 := Tryz.underlying232
  a46 := Tryz.isAgg232
  z46 := Tryz.sizeOf232
  v46 := Tryz.zeroValue232
  t51 := Tryz.underlying306
  a51 := Tryz.isAgg306
  z51 := Tryz.sizeOf306
  v51 := Tryz.zeroValue306
  t53 := Tryz.underlying224
  a53 := Tryz.isAgg224
  z53 := Tryz.sizeOf224
  v53 := Tryz.zeroValue224
  t171 := Tryz.underlying223
  a171 := Tryz.isAgg223
  z171 := Tryz.sizeOf223
  v171 := Tryz.zeroValue223
  t173 := Tryz.underlying227
  a173 := Tryz.isAgg227
  z173 := Tryz.sizeOf227
  v173 := Tryz.zeroValue227
  t212 := Tryz.underlying305
  a212 := Tryz.isAgg305
  z212 := Tryz.sizeOf305
  v212 := Tryz.zeroValue305
  t213 := Tryz.underlying307
  a213 := Tryz.isAgg307
  z213 := Tryz.sizeOf307
  t232 := Tryz.underlying387
  a232 := Tryz.isAgg387
  z232 := Tryz.sizeOf387
  v232 := Tryz.zeroValue387
  t233 := Tryz.underlying388
  a233 := Tryz.isAgg388
  z233 := Tryz.sizeOf388
  v233 := Tryz.zeroValue388
  g17 := by kernel_rfl
  g18 := by kernel_rfl
  g19 := by kernel_rfl
  i0 := by kernel_rfl
  i2 := by kernel_rfl
  i3 := by kernel_rfl
  i4 := by kernel_rfl
  i5 := by kernel_rfl
  i9 := by kernel_rfl
  i20 := by kernel_rfl
  i37 := by kernel_rfl
  i46 := by kernel_rfl
  i51 := by kernel_rfl
  i53 := by kernel_rfl
  i171 := by kernel_rfl
  i173 := by kernel_rfl
  i212 := by kernel_rfl
  i232 := by kernel_rfl
  i233 := by kernel_rfl
  m17 := by kernel_rfl
  m18 := by kernel_rfl
  m19 := by kernel_rfl }
open Go.RowKit Go.Sort Go.Lib in
theorem Tryz.strconv_Itoa (n : Int) (h0 : -9223372036854775808 ≤ n) (h1 : n ≤ 9223372036854775807) (w : World) (htab : Lib.TabIs Tryz.prog w "internal/strconv.uint64pow10" .u64 Lib.pow10Tab) :
    Calls Tryz.prog 32 #[.int .i64 n] w fun e w' => e = .returned (.string ⟨(Lib.itoa n).toArray⟩) ∧ ∃ k os, w' = grow (w.drewN k) os := Any.strconv_Itoa Tryz.laysM171 n h0 h1 w htab
end Go.Proofs

namespace Go.Proofs.YtdghkmbppfmifaaGreatDoor.Ri
open Go.Proofs.YtdghkmbppfmifaaGreatDoor.Fw
open Go.RowKit
set_option linter.unusedVariables false
set_option maxRecDepth 100000
theorem ct_flat {f : Nat} {D : InT τ0 (Z0.sg f) → Option (OutT τ0 (Z0.sg f))} (hrun : FnRun Tryz.prog (Z0.bs f)) (hps : ptrs (Z0.sg f).ps = []) (hrs : ptrs (Z0.sg f).rs = []) (hrl : (Z0.sg f).rs.length = 1)
    (H : ∀ x y, D x = some y → ∃ v : Value, VGood v ∧ (∀ b, canO Z0.O Z0.ti b (Z0.sg f).outs [] y = ([.v v], [], b)) ∧ ∀ (K S : Nat → Prop) (w : World) (θ : Nat → Lo) (us : List Value), Gok K w → (∀ b, K b → b < w.heap.size) → (∀ b, S b → K b) →
      RepL θ S w (canO Z0.O Z0.ti (ptrs (Z0.sg f).ps).length (Z0.sg f).ps (List.range (ptrs (Z0.sg f).ps).length) x).1 us → Calls Tryz.prog (Z0.bs f) us.toArray w (fun e w' => e = .returned v ∧ Below w.heap.size w w')) : Ct Z0 Tryz.prog f D := by
  intro x y h
  obtain ⟨v, hv, ho, hc⟩ := H x y h
  refine ⟨hrun, fun K S w θ us hK hS hg hr hE => ?_⟩
  refine (hc K S w θ us hg hK hS hr).mono fun e w' ⟨he, hb⟩ => ⟨v, he, Keep.of_below hb hK, hrs, S, fun b h => .inl h, fun b h => Nat.lt_of_lt_of_le (hK b (hS b h)) hb.size, [v], rfl, hrl.symm, fun b qs θq hl _ _ hp => ⟨θq, fun _ _ => rfl, ?_, ?_⟩⟩
  · obtain rfl : qs = [] := List.eq_nil_of_length_eq_zero (by rw [hl, hps]; rfl)
    have hp : ptrU (Z0.sg f).ps us = [] := hp
    rw [ho, hp]
    exact ⟨v, [], rfl, ⟨rfl, hv⟩, rfl⟩
  · obtain rfl : qs = [] := List.eq_nil_of_length_eq_zero (by rw [hl, hps]; rfl)
    rw [ho]
    exact ⟨fun r e h => (by cases h), fun r r' e e' b b' h => (by cases h)⟩
theorem fnrun_of {f : Nat} {fn : Func} (h : Tryz.prog.funcs[f]? = some fn) (hb : fn.body.isSome = true) (hn : (fn.name == "runtime.NumGoroutine") = false) : FnRun Tryz.prog f :=
  ⟨fn, h, (fun e => by rw [e] at hb; cases hb), (fun e => by rw [e] at hn; simp at hn)⟩
open Go.Sort in
theorem below_grow (w : World) (k : Nat) (os : Array Obj) : Below w.heap.size w (grow (w.drewN k) os) := by
  refine ⟨rfl, rfl, rfl, by simp [grow, World.drewN], fun b hb => ?_⟩
  show (w.heap ++ os)[b]? = w.heap[b]?
  rw [Array.getElem?_append_left hb]
theorem pow_ok {K : Nat → Prop} {w : World} (h : Gok K w) : Lib.TabIs Tryz.prog w "internal/strconv.uint64pow10" .u64 Lib.pow10Tab := by
  have h1 := (h (0, pow10L.map (Value.int .u64)) (List.mem_singleton.2 rfl)).2
  rw [show Lib.pow10Tab = pow10L by decide]
  exact h1.var (by kernel_rfl)
theorem itoa_call (n : Int) {K : Nat → Prop} {w : World} (hv : VGood (.int .i64 n)) (hg : Gok K w) : Calls Tryz.prog 32 [.int .i64 n].toArray w (fun e w' => e = .returned (.string (itoaS n)) ∧ Below w.heap.size w w') := by
  have hv : IntKind.wrap .i64 n = n := hv
  have h2 : IntKind.wrap .i64 n = n := hv
  rw [IntKind.wrap_i64] at h2
  refine (Tryz.strconv_Itoa n (by omega) (by omega) w (pow_ok hg)).mono fun e w2 h => ?_
  obtain ⟨h1, k, os, rfl⟩ := h
  unfold itoaS
  rw [hv]
  exact ⟨h1, below_grow w k os⟩
theorem xt32 : Ct Z0 Tryz.prog 32 (Z0.xt 32) := by
  refine ct_flat (fnrun_of Tryz.func32 (by kernel_rfl) (by kernel_rfl)) rfl rfl rfl fun x y h => ?_
  obtain rfl : y = (itoaS x.1, ()) := (Option.some.inj h).symm
  refine ⟨.string (itoaS x.1), Nat.le_trans (itoaS_size _) (by decide), fun b => rfl, fun K S w θ us hg hK hS hr => ?_⟩
  obtain ⟨u, r, rfl, ⟨rfl, hv⟩, hr2⟩ := (show RepL θ S w [.v (.int .i64 x.1)] us from hr)
  obtain rfl := hr2
  exact itoa_call x.1 hv hg
theorem join_call {S : Nat → Prop} {v0 : Value} (p0 : List ByteArray) (p1 : ByteArray) {w : World} (hS : ∀ b, S b → b < w.heap.size) (hp0 : SlR S w v0 p0) (hj : (joinS p0 p1).size ≤ 140737488355328) (hn : p0.length ≤ 140737488355328) :
    Calls Tryz.prog 34 [v0, .string p1].toArray w (fun e w' => e = .returned (.string (joinS p0 p1)) ∧ Below w.heap.size w w') := by
  obtain ⟨A, cap, rfl, h1, h2, h3⟩ := hp0
  by_cases he : p0 = []
  · subst he
    refine (Tryz.strings_Join_none A cap p1 w).mono fun e w2 h => ?_
    obtain ⟨h, rfl⟩ := h
    exact ⟨h, Below.refl _ _⟩
  · obtain ⟨ad, rfl, hb, hc⟩ := h3 he
    obtain ⟨bk, o, sp⟩ := ad
    have hsp : sp = none := by
      obtain ⟨x, r, rfl⟩ := List.exists_cons_of_ne_nil he
      obtain ⟨cs, ⟨rfl, _⟩, hcs⟩ := hc 0 x rfl
      have h0 := hcs 0 _ rfl
      rw [Nat.zero_mul, Addr.add_zero', Addr.add_zero'] at h0
      cases sp with
      | none => rfl
      | some s =>
        unfold World.cell? at h0
        split at h0
        · simp at h0
        · simp at h0
    subst hsp
    refine (Tryz.strings_Join bk o cap p0 p1 w (fun j x hx => ?_) (hS _ hb) hn h1 hj).mono fun e w2 h => h
    obtain ⟨cs, ⟨rfl, _⟩, hcs⟩ := hc j x hx
    have h0 := hcs 0 _ rfl
    have e : (⟨bk, o, none⟩ : Addr).add (j * Dat.sz ByteArray) = ⟨bk, o + j, none⟩ := by
      have e1 : j * Dat.sz ByteArray = j := Nat.mul_one j
      rw [e1]
      unfold Addr.add
      split <;> simp_all
    rw [Addr.add_zero', e] at h0
    exact h0
theorem xt34 : Ct Z0 Tryz.prog 34 (Z0.xt 34) := by
  refine ct_flat (fnrun_of Tryz.func34 (by kernel_rfl) (by kernel_rfl)) rfl rfl rfl fun x y h => ?_
  have h : (bif Nat.ble (joinS x.1 x.2.1).size 140737488355328 && Nat.ble x.1.length 140737488355328 then some (joinS x.1 x.2.1, ()) else none) = some y := h
  cases hb : Nat.ble (joinS x.1 x.2.1).size 140737488355328 && Nat.ble x.1.length 140737488355328 with
  | false => rw [hb] at h; cases h
  | true =>
    rw [hb] at h
    obtain rfl : y = (joinS x.1 x.2.1, ()) := (Option.some.inj h).symm
    rw [Bool.and_eq_true] at hb
    have h1 := Nat.le_of_ble_eq_true hb.1
    have h2 := Nat.le_of_ble_eq_true hb.2
    refine ⟨.string (joinS x.1 x.2.1), Nat.le_trans h1 (by decide), fun b => rfl, fun K S w θ us hg hK hS hr => ?_⟩
    obtain ⟨u, r, rfl, hu, u', r', rfl, ⟨rfl, hv⟩, hr2⟩ := (show RepL θ S w [.ro 9 (show List (τ0.T 9) from x.1), .v (.string x.2.1)] us from hr)
    obtain rfl := hr2
    exact join_call x.1 x.2.1 (fun b hb => hK b (hS b hb)) hu h1 h2
theorem hXt : ∀ f, Z0.isx f = true → Ct Z0 Tryz.prog f (Z0.xt f) := by
  intro f h
  have h : (Nat.beq f 32 || Nat.beq f 34) = true := h
  rw [Bool.or_eq_true] at h
  rcases h with h | h
  · obtain rfl := Nat.eq_of_beq_eq_true h
    exact xt32
  · obtain rfl := Nat.eq_of_beq_eq_true h
    exact xt34
end Go.Proofs.YtdghkmbppfmifaaGreatDoor.Ri

namespace Go.Proofs.YtdghkmbppfmifaaGreatDoor.Ri
open Go.Proofs.YtdghkmbppfmifaaGreatDoor.Fw
open Go.RowKit
set_option linter.unusedVariables false
set_option maxRecDepth 100000
theorem S0 : Sy Tryz.prog Z0.ti Z0.zr := ⟨tiok, zok, ftok, arok⟩
theorem hm0 : Tryz.prog.follows .mixedOrders = true := by kernel_rfl
theorem Dn_ok (f : Nat) : Ct Z0 Tryz.prog f (Dn f) := Den_ok S0 O0_fit (fxOf_ok Z0 Tryz.prog) (calls_ok O0_fit) (draws_ok hm0 S0) hXt f
theorem close_law {f : Nat} {x : InT τ0 (Z0.sg f)} {y : OutT τ0 (Z0.sg f)} {vi : List (Vx τ0)} {nx : Nat} {r : Value} {us : List Value} {w : World} (hg : Gok (Old w) w) (h : Dn f x = some y) (hps : ptrs (Z0.sg f).ps = [])
    (hI : canO Z0.O Z0.ti (ptrs (Z0.sg f).ps).length (Z0.sg f).ps (List.range (ptrs (Z0.sg f).ps).length) x = (vi, [], nx)) (hpu : ptrU (Z0.sg f).ps us = [])
    (hO : (canO Z0.O Z0.ti 0 (Z0.sg f).outs [] y).1 = [.v r]) (hr : ∀ θ, RepL θ (Old w) w vi us) :
    Calls Tryz.prog (Z0.bs f) us.toArray w fun e w' => e = .returned r ∧ Below w.heap.size w w' := by
  obtain ⟨_, hc⟩ := Dn_ok f x y h
  have hc := hc (Old w) (Old w) w (fun _ => ⟨none, 0, 0⟩) us (fun _ h => h) (fun _ h => h) hg (by rw [hI]; exact hr _) (by rw [hI]; exact ⟨fun r e h => (by cases h), fun r r' e e' b b' h => (by cases h)⟩)
  refine hc.mono fun e w' ⟨v, hv, hk, _, S', _, _, us', hvp, hl, hall⟩ => ?_
  obtain ⟨θ', _, h1, _⟩ := hall 0 [] (fun _ => ⟨none, 0, 0⟩) (by rw [hps]; rfl) List.nodup_nil (fun q hq => by cases hq) (by rw [hpu]; rfl)
  rw [hO, hpu, List.append_nil] at h1
  obtain ⟨u, r', e1, ⟨e2, _⟩, e3⟩ := h1
  obtain rfl := e3
  refine ⟨?_, hk.below⟩
  rw [hv, hvp, e1, e2]
  rfl
theorem oc3 (p0 : List UInt8) {v0 : Value} {w : World} (hp0 : SlR (Old w) w v0 p0) (hG : GV 0 (pow10L.map (Value.int .u64)) w) : Calls Tryz.prog 3 [v0].toArray w (fun e w' => e = .returned (.bool true) ∧ Below w.heap.size w w') := by
  have h : D2003 p0 = some (true, ()) := by
    obtain ⟨⟨b, u⟩, h1, h2⟩ := c2003 (x0 := p0)
    rw [h1]
    obtain rfl : b = true := h2
    rfl
  exact close_law (f := 3) (y := (true, ())) (vi := [.ro 5 p0]) (nx := 0) (r := .bool true) (fun x hx => by rw [List.mem_singleton.1 hx]; exact ⟨hG.lt, hG⟩) h rfl (by kernel_rfl) rfl (by kernel_rfl) (fun θ => ⟨_, _, rfl, hp0, rfl⟩)
end Go.Proofs.YtdghkmbppfmifaaGreatDoor.Ri

namespace Go.Proofs.YtdghkmbppfmifaaGreatDoor.Fw
open Go.RowKit
set_option linter.unusedVariables false
set_option linter.unusedSimpArgs false
def gl0 : List Int := [1, 10, 100, 1000, 10000, 100000, 1000000, 10000000, 100000000, 1000000000, 10000000000, 100000000000, 1000000000000, 10000000000000, 100000000000000, 1000000000000000, 10000000000000000, 100000000000000000, 1000000000000000000, 10000000000000000000]
def gl2 : List Int := [0, 1, 28, 2, 29, 14, 24, 3, 30, 22, 20, 15, 25, 17, 4, 8, 31, 27, 13, 23, 21, 19, 16, 7, 26, 12, 18, 6, 11, 5, 10, 9]
def gl3 : List Int := [0, 1, 56, 2, 57, 49, 28, 3, 61, 58, 42, 50, 38, 29, 17, 4, 62, 47, 59, 36, 45, 43, 51, 22, 53, 39, 33, 30, 24, 18, 12, 5, 63, 55, 48, 27, 60, 41, 37, 16, 46, 35, 44, 21, 52, 32, 23, 11, 54, 26, 40, 15, 34, 20, 31, 10, 25, 14, 19, 9, 13, 8, 7, 6]
end Go.Proofs.YtdghkmbppfmifaaGreatDoor.Fw
