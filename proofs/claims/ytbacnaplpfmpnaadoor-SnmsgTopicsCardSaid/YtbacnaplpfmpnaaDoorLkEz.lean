/- SnmsgTopics, all ways together. -/
import Derived.Test.YtbacnaplpfmpnaaDoorLkEt
import Derived.Test.YtbacnaplpfmpnaaDoorLkEpt
import Derived.Test.YtbacnaplpfmpnaaDoorLkEq
namespace Go.Proofs.YtbacnaplpfmpnaaDoor
open Go.RowKit
set_option linter.unusedVariables false
theorem snmsgTopics_walk (name : List UInt8) (id : Int) (data : List UInt8) (msg : Int)  (w : World) (hm : Mx w) :
    Calls Tryd.prog 4 #[.string ⟨name.toArray⟩, .int .i64 id, .string ⟨data.toArray⟩, .int .i64 msg] w fun e w' => e = .returned (.bool true) ∧ Below w.heap.size w w' := by
  by_cases h : 400 < name.length ∨ 400 < data.length
  · exact snmsgTopics_heavy name id data msg h w hm
  have hl : name.length ≤ 400 := by omega
  have hd : data.length ≤ 400 := by omega
  cases hi : (shortF name).2
  rotate_left
  · cases ho : (nameOfF id).2
    rotate_left
    · by_cases hc : id < 1
      · exact snmsgTopics_t_y_l name id data msg hl hd hi ho hc w hm
      by_cases hc2 : 65534 < id
      · exact snmsgTopics_t_y_h name id data msg hl hd hi ho (by omega) hc2 w hm
      · exact snmsgTopics_t_y_i name id data msg hl hd hi ho (by omega) (by omega) w hm
    · by_cases hc : id < 1
      · exact snmsgTopics_t_n_l name id data msg hl hd hi ho hc w hm
      by_cases hc2 : 65534 < id
      · exact snmsgTopics_t_n_h name id data msg hl hd hi ho (by omega) hc2 w hm
      · exact snmsgTopics_t_n_i name id data msg hl hd hi ho (by omega) (by omega) w hm
  rw [short_is] at hi
  by_cases h2 : name.length = 2
  · have hnb : nameB name = false := by rw [decide_eq_true h2, Bool.true_and] at hi; exact hi
    cases ho : (nameOfF id).2
    rotate_left
    · by_cases hc : id < 1
      · exact snmsgTopics_q_y_l name id data msg hl hd h2 hnb ho hc w hm
      by_cases hc2 : 65534 < id
      · exact snmsgTopics_q_y_h name id data msg hl hd h2 hnb ho (by omega) hc2 w hm
      · exact snmsgTopics_q_y_i name id data msg hl hd h2 hnb ho (by omega) (by omega) w hm
    · by_cases hc : id < 1
      · exact snmsgTopics_q_n_l name id data msg hl hd h2 hnb ho hc w hm
      by_cases hc2 : 65534 < id
      · exact snmsgTopics_q_n_h name id data msg hl hd h2 hnb ho (by omega) hc2 w hm
      · exact snmsgTopics_q_n_i name id data msg hl hd h2 hnb ho (by omega) (by omega) w hm
  cases hnb : nameB name
  · cases ho : (nameOfF id).2
    rotate_left
    · by_cases hc : id < 1
      · exact snmsgTopics_pf_y_l name id data msg hl hd h2 hnb ho hc w hm
      by_cases hc2 : 65534 < id
      · exact snmsgTopics_pf_y_h name id data msg hl hd h2 hnb ho (by omega) hc2 w hm
      · exact snmsgTopics_pf_y_i name id data msg hl hd h2 hnb ho (by omega) (by omega) w hm
    · by_cases hc : id < 1
      · exact snmsgTopics_pf_n_l name id data msg hl hd h2 hnb ho hc w hm
      by_cases hc2 : 65534 < id
      · exact snmsgTopics_pf_n_h name id data msg hl hd h2 hnb ho (by omega) hc2 w hm
      · exact snmsgTopics_pf_n_i name id data msg hl hd h2 hnb ho (by omega) (by omega) w hm
  · cases ho : (nameOfF id).2
    rotate_left
    · by_cases hc : id < 1
      · exact snmsgTopics_pt_y_l name id data msg hl hd h2 hnb ho hc w hm
      by_cases hc2 : 65534 < id
      · exact snmsgTopics_pt_y_h name id data msg hl hd h2 hnb ho (by omega) hc2 w hm
      · exact snmsgTopics_pt_y_i name id data msg hl hd h2 hnb ho (by omega) (by omega) w hm
    · by_cases hc : id < 1
      · exact snmsgTopics_pt_n_l name id data msg hl hd h2 hnb ho hc w hm
      by_cases hc2 : 65534 < id
      · exact snmsgTopics_pt_n_h name id data msg hl hd h2 hnb ho (by omega) hc2 w hm
      · exact snmsgTopics_pt_n_i name id data msg hl hd h2 hnb ho (by omega) (by omega) w hm
end Go.Proofs.YtbacnaplpfmpnaaDoor
