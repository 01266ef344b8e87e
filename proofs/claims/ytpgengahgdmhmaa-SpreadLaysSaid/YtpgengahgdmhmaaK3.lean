/- Lemmas: an abstract machine over the loaded program, proved sound against the model once; what the program's functions compute. -/
import Derived.Test.YtpgengahgdmhmaaK0
import Derived.KernelRfl
/- The functions of the program, as the abstract machine takes them: printed by gen2.py. -/
namespace Go.AM
set_option linter.unusedVariables false
def t_kfifo_Queue : TypeId := 186
def t_multi_Multi : TypeId := 219
def t_net_Net : TypeId := 177
def t_pile_Item : TypeId := 27
def t_pile_items_u : TypeId := 203
def t_tally_Tally : TypeId := 223

def n_c_law18_SpreadLays : FuncId := 4
def n_c_law18_awake : FuncId := 9
def n_c_law04_Own : FuncId := 10
def n_spread_Deal : FuncId := 11
def n_pile_Item_Cmp : FuncId := 12
def n_c_law17_Make : FuncId := 13
def n_spread_Lay : FuncId := 14
def n_c_ref18_Lay : FuncId := 15
def n_c_law17_Told : FuncId := 16
def n_c_law06_Run_Same : FuncId := 17
def n_spread_To : FuncId := 18
def n_image_Image_Check : FuncId := 22
def n_image_Image_Value : FuncId := 23
def n_spread_Engine : FuncId := 24
def n_c_law12_Kind : FuncId := 31
def n_pile_Item_Canon : FuncId := 32
def n_pile_Sorted : FuncId := 33
def n_cell_New : FuncId := 42
def n_c_ref06_Legal : FuncId := 43
def n_c_law03_F : FuncId := 46
def n_real_Cmp : FuncId := 47
def n_c_law17_sorted : FuncId := 48
def n_image_Room : FuncId := 49
def n_cell_Memory_Force : FuncId := 50
def n_spread_fifo : FuncId := 51
def n_spread_tokens : FuncId := 52
def n_c_ref17_Check : FuncId := 53
def n_c_ref18_room : FuncId := 54
def n_c_ref18_number : FuncId := 55
def n_c_ref18_pass : FuncId := 56
def n_c_ref10_Count : FuncId := 57
def n_c_ref18_even : FuncId := 58
def n_c_law04_Bits : FuncId := 59
def n_cell_Memory_Clock : FuncId := 60
def n_cell_Memory_Len : FuncId := 61
def n_c_ref05_Len : FuncId := 62
def n_c_ref05_Read : FuncId := 63
def n_cell_Memory_Read : FuncId := 64
def n_c_law05_Is : FuncId := 65
def n_op_Legal : FuncId := 66
def n_wire_Even : FuncId := 67
def n_c_law04_Are : FuncId := 69
def n_image_Shape : FuncId := 76
def n_image_order : FuncId := 77
def n_engine_With : FuncId := 78
def n_real_Canon : FuncId := 80
def n_pile_New : FuncId := 81
def n_pile_Pile_All : FuncId := 82
def n_net_New : FuncId := 95
def n_real_Key : FuncId := 98
def n_cell_Memory_Write : FuncId := 99
def n_kfifo_New : FuncId := 100
def n_kfifo_Queue_Slot : FuncId := 101
def n_wire_Plan_Pass : FuncId := 102
def n_c_ref04_Cmp : FuncId := 103
def n_c_ref10_Merge : FuncId := 104
def n_c_ref03_Bits : FuncId := 105
def n_cell_Value_Clone : FuncId := 107
def n_c_law04_Is : FuncId := 108
def n_engine_machine : FuncId := 109
def n_container_heap_Init : FuncId := 110
def n_pile_Pile_Take : FuncId := 111
def n_wire_Make : FuncId := 118
def n_c_ref03_Cmp : FuncId := 119
def n_c_ref10_pick : FuncId := 120
def n_multi_New : FuncId := 121
def n_tally_New : FuncId := 122
def n_container_heap_down : FuncId := 123
def n_container_heap_Pop : FuncId := 124
def n_wire_Plan_count : FuncId := 127
def n_c_ref03_Key : FuncId := 128
def n_wire_Plan_merge : FuncId := 139
def n_wire_every : FuncId := 145
def n_pile_items_Len : FuncId := 168
def n_pile_items_Less : FuncId := 169
def n_pile_items_Swap : FuncId := 170
def n_pile_items_Pop : FuncId := 171
def n_pile_items_Len_q : FuncId := 1000168
def n_pile_items_Less_q : FuncId := 1000169
def n_pile_items_Swap_q : FuncId := 1000170
def F_c_law18_SpreadLays : F := ⟨2, [.inl 4],
  (.seq (.reg [.zz 0] [⟨some 2, none, .bx (.k 0), [], 0⟩,
    ⟨some 4, none, .mv (.c (.b false)), [], 0⟩] false [1, 2] [2])
  (.seq (.seq (.reg [] [⟨some 11, none, .call n_c_law18_awake [], [], 0⟩,
    ⟨some 12, none, .un .not (.k 11), [], 0⟩] false [1, 2, 12] [2])
  (.cond 12 (.seq (.reg [] [⟨some 4, none, .mv (.c (.b false)), [], 0⟩] false [4] [])
  .ret)
  .skip))
  (.seq (.reg [] [⟨some 13, none, .ld true 6 .cp (.t 2), [], 2⟩,
    ⟨some 14, none, .call n_c_law17_Make [.k 13], [], 1⟩,
    ⟨some 5, none, .al ([.i .i64 0, .i .i64 0, .i .u64 0, .l .o 1 [], .l .o 1 []]), [], 0⟩,
    ⟨none, none, .st 5 (.t 5) (.k 14), [], 0⟩] false [1, 2, 5] [2, 5])
  (.seq (.seq (.reg [] [⟨some 15, none, .mv (.k 1), [], 0⟩] false [2, 5, 15] [2, 5])
  (.cond 15 (.reg [] [⟨some 16, none, .fa 5 (.k 2), [], 0⟩,
    ⟨some 17, none, .ld false 1 .cp (.k 16), [], 0⟩,
    ⟨some 18, none, .fa 1 (.t 5), [], 0⟩,
    ⟨none, none, .st 1 (.k 18) (.k 17), [], 0⟩] false [5] [5])
  .skip))
  (.seq (.reg [] [⟨some 20, none, .ld true 5 .cp (.t 5), [], 2⟩,
    ⟨some 21, none, .call n_spread_Lay [.k 20], [], 0⟩,
    ⟨some 19, none, .mv (.k 21), [], 0⟩,
    ⟨some 22, none, .ex false 0 19, [], 0⟩,
    ⟨some 23, none, .ex false 1 19, [], 0⟩,
    ⟨some 6, none, .mv (.k 22), [], 0⟩,
    ⟨some 7, none, .mv (.k 23), [], 0⟩] false [5, 6, 7] [5])
  (.seq (.reg [] [⟨some 25, none, .ld true 5 .tk (.k 5), [], 2⟩,
    ⟨some 26, none, .call n_c_law17_Told [.k 25], [], 2⟩,
    ⟨some 27, none, .call n_c_ref18_Lay [.k 26], [], 0⟩,
    ⟨some 24, none, .mv (.k 27), [], 0⟩,
    ⟨some 28, none, .ex false 0 24, [], 0⟩,
    ⟨some 29, none, .ex false 1 24, [], 0⟩,
    ⟨some 8, none, .al ([.l .o 3 []]), [], 0⟩,
    ⟨none, none, .st 1 (.t 8) (.k 28), [], 0⟩,
    ⟨some 9, none, .mv (.k 29), [], 0⟩] false [6, 7, 8, 9] [8])
  (.seq (.seq (.reg [] [⟨some 30, none, .mv (.t 9), [], 0⟩,
    ⟨some 31, none, .bin .neq (.k 30) (.c (.i .i64 0)), [], 0⟩] false [6, 7, 8, 9, 31] [8])
  (.cond 31 (.seq (.reg [] [⟨some 32, none, .mv (.k 7), [], 0⟩,
    ⟨some 33, none, .mv (.k 9), [], 0⟩,
    ⟨some 34, none, .bin .eql (.k 32) (.k 33), [], 0⟩,
    ⟨some 35, none, .mv (.k 34), [], 0⟩,
    ⟨some 36, some (35, true), .mv (.k 6), [], 0⟩,
    ⟨some 37, some (35, true), .eq false .pt (.k 36) (.c (.nilp)), [], 0⟩,
    ⟨some 38, none, .pick (.k 35) (.k 37) (.c (.b false)), [], 0⟩,
    ⟨some 4, none, .mv (.k 38), [], 0⟩] false [4] [])
  .ret)
  .skip))
  (.seq (.seq (.reg [] [⟨some 39, none, .mv (.k 7), [], 0⟩,
    ⟨some 40, none, .bin .neq (.k 39) (.c (.i .i64 0)), [], 0⟩,
    ⟨some 41, none, .mv (.k 40), [], 0⟩,
    ⟨some 42, some (41, false), .mv (.t 6), [], 0⟩,
    ⟨some 43, some (41, false), .eq false .pt (.k 42) (.c (.nilp)), [], 0⟩,
    ⟨some 44, none, .pick (.k 41) (.c (.b true)) (.k 43), [], 0⟩] false [6, 8, 44] [8])
  (.cond 44 (.seq (.reg [] [⟨some 4, none, .mv (.c (.b false)), [], 0⟩] false [4] [])
  .ret)
  .skip))
  (.seq (.reg [] [⟨some 45, none, .mv (.k 6), [], 0⟩,
    ⟨some 46, none, .ld true 1 .tk (.k 8), [], 0⟩,
    ⟨some 47, none, .bd ([.nilp, .l .o 3 [], .l .o 12 [], .i .i64 0]) [(0, 1, .k 45), (1, 1, .k 46)], [], 0⟩,
    ⟨some 10, none, .al ([.nilp, .l .o 3 [], .l .o 12 [], .i .i64 0]), [], 0⟩,
    ⟨none, none, .st 4 (.t 10) (.k 47), [], 0⟩] false [10] [10])
  (.seq (.reg [] [⟨some 48, none, .ld true 4 .tk (.k 10), [], 2⟩,
    ⟨some 49, none, .call n_c_law06_Run_Same [.k 48], [], 0⟩,
    ⟨some 50, none, .bin .eql (.k 49) (.c (.i .i64 0)), [], 0⟩,
    ⟨some 4, none, .mv (.k 50), [], 0⟩] false [4] [])
  .ret))))))))))⟩

def F_c_law18_awake : F := ⟨0, [.inl 0],
  (.seq (.reg [] [⟨some 0, none, .mv (.c (.b false)), [], 0⟩] false [] [])
  (.seq (.reg [] [⟨some 8, none, .bs 1 2 (.i .i64 0) [(0, .c (.i .i64 7)), (1, .c (.i .i64 0))], [], 1⟩,
    ⟨some 9, none, .bd ([.i .i64 0, .i .i64 0, .i .u64 0, .l .o 1 [], .l .o 1 []]) [(0, 1, .c (.i .i64 3)), (1, 1, .c (.i .i64 2)), (4, 1, .k 8)], [], 2⟩,
    ⟨some 10, none, .call n_spread_To [.k 9, .c (.i .i64 3)], [], 0⟩,
    ⟨some 7, none, .mv (.k 10), [], 0⟩,
    ⟨some 11, none, .ex false 0 7, [], 0⟩,
    ⟨some 12, none, .ex false 1 7, [], 0⟩,
    ⟨some 1, none, .al ([.i .i64 0, .i .i64 0, .i .u64 0, .l .o 1 [], .l .o 1 []]), [], 0⟩,
    ⟨none, none, .st 5 (.t 1) (.k 11), [], 0⟩,
    ⟨some 2, none, .mv (.k 12), [], 0⟩] false [1, 2] [1])
  (.seq (.reg [] [⟨some 14, none, .bd ([.i .i64 0, .i .i64 0, .i .u64 0, .l .o 1 [], .l .o 1 []]) [], [], 2⟩,
    ⟨some 15, none, .call n_spread_Lay [.k 14], [], 0⟩,
    ⟨some 13, none, .mv (.k 15), [], 0⟩,
    ⟨some 16, none, .ex false 0 13, [], 0⟩,
    ⟨some 17, none, .ex false 1 13, [], 0⟩,
    ⟨some 3, none, .mv (.k 16), [], 0⟩,
    ⟨some 4, none, .mv (.k 17), [], 0⟩] false [1, 2, 4] [1])
  (.seq (.reg [] [⟨some 19, none, .ld true 5 .cp (.t 1), [], 2⟩,
    ⟨some 20, none, .call n_spread_Engine [.k 19, .c (.i .i64 0)], [], 0⟩,
    ⟨some 18, none, .mv (.k 20), [], 0⟩,
    ⟨some 21, none, .ex false 0 18, [], 0⟩,
    ⟨some 22, none, .ex false 1 18, [], 0⟩,
    ⟨some 5, none, .mv (.k 21), [], 0⟩,
    ⟨some 6, none, .mv (.k 22), [], 0⟩] false [1, 2, 4, 6] [1])
  (.seq (.reg [] [⟨some 23, none, .mv (.k 2), [], 0⟩,
    ⟨some 24, none, .bin .eql (.k 23) (.c (.i .i64 0)), [], 0⟩,
    ⟨some 25, none, .mv (.k 24), [], 0⟩,
    ⟨some 26, some (25, true), .fa 4 (.t 1), [], 0⟩,
    ⟨some 27, some (25, true), .ld false 1 .cp (.k 26), [], 0⟩,
    ⟨some 28, some (25, true), .len false (.k 27), [], 0⟩,
    ⟨some 29, some (25, true), .bin .eql (.k 28) (.c (.i .i64 3)), [], 0⟩,
    ⟨some 30, none, .pick (.k 25) (.k 29) (.c (.b false)), [], 0⟩,
    ⟨some 31, none, .mv (.k 30), [], 0⟩,
    ⟨some 32, some (31, true), .fa 4 (.t 1), [], 0⟩,
    ⟨some 33, some (31, true), .ld false 1 .cp (.k 32), [], 0⟩,
    ⟨some 34, some (31, true), .ia 1 none (.k 33) (.c (.i .i64 0)), [], 0⟩,
    ⟨some 35, some (31, true), .ld false 1 .cp (.k 34), [], 0⟩,
    ⟨some 36, some (31, true), .bin .eql (.k 35) (.c (.i .i64 3)), [], 0⟩,
    ⟨some 37, none, .pick (.k 31) (.k 36) (.c (.b false)), [], 0⟩,
    ⟨some 38, none, .mv (.k 37), [], 0⟩,
    ⟨some 39, some (38, true), .fa 4 (.k 1), [], 0⟩,
    ⟨some 40, some (38, true), .ld false 1 .tk (.k 39), [], 0⟩,
    ⟨some 41, some (38, true), .ia 1 none (.k 40) (.c (.i .i64 2)), [], 0⟩,
    ⟨some 42, some (38, true), .ld false 1 .cp (.k 41), [], 0⟩,
    ⟨some 43, some (38, true), .bin .eql (.k 42) (.c (.i .i64 2)), [], 0⟩,
    ⟨some 44, none, .pick (.k 38) (.k 43) (.c (.b false)), [], 0⟩,
    ⟨some 45, none, .mv (.k 44), [], 0⟩,
    ⟨some 46, some (45, true), .mv (.k 4), [], 0⟩,
    ⟨some 47, some (45, true), .bin .eql (.k 46) (.c (.i .i64 6)), [], 0⟩,
    ⟨some 48, none, .pick (.k 45) (.k 47) (.c (.b false)), [], 0⟩,
    ⟨some 49, none, .mv (.k 48), [], 0⟩,
    ⟨some 50, some (49, true), .mv (.k 6), [], 0⟩,
    ⟨some 51, some (49, true), .bin .eql (.k 50) (.c (.i .i64 5)), [], 0⟩,
    ⟨some 52, none, .pick (.k 49) (.k 51) (.c (.b false)), [], 0⟩,
    ⟨some 0, none, .mv (.k 52), [], 0⟩] false [0] [])
  .ret)))))⟩

def F_c_law04_Own : F := ⟨1, [.inr (2, true, 2)],
  (.seq (.reg [] [⟨some 1, none, .bx (.k 0), [], 0⟩,
    ⟨some 2, none, .al ([.f .f64 0, .i .i64 0]), [], 0⟩] false [1, 2] [1, 2])
  (.seq (.reg [] [⟨some 3, none, .fa 0 (.t 1), [], 0⟩,
    ⟨some 4, none, .ld false 1 .cp (.k 3), [], 0⟩,
    ⟨some 5, none, .call n_c_law03_F [.k 4], [], 0⟩,
    ⟨some 6, none, .fa 1 (.t 1), [0, 1, 2], 0⟩,
    ⟨some 7, none, .ld false 1 .cp (.k 6), [0, 1, 2], 0⟩,
    ⟨some 8, none, .bd ([.f .f64 0, .i .i64 0]) [(0, 1, .k 5), (1, 1, .k 7)], [], 0⟩,
    ⟨none, none, .st 2 (.t 2) (.k 8), [], 0⟩] true [2] [2])
  .ret))⟩

def F_spread_Deal : F := ⟨2, [.inl 4],
  (.seq (.reg [.zz 0] [⟨some 4, none, .mv (.c (.l .o 1 [])), [], 0⟩] false [0, 1] [])
  (.seq (.reg [] [⟨some 7, none, .mv (.t 1), [], 0⟩,
    ⟨some 8, none, .mx true [.k 7, .c (.i .i64 0)], [], 0⟩,
    ⟨some 9, none, .ms 1 24 (.l .o 2 []) (.t 8) (.t 8), [], 0⟩,
    ⟨some 5, none, .mv (.k 9), [], 0⟩] false [0, 1, 5] [5])
  (.seq (.seq (.reg [] [⟨some 6, none, .mv (.c (.i .i64 0)), [], 0⟩] false [0, 1, 5, 6] [5])
  (.blk 0 (.loop (.seq (.seq (.reg [] [⟨some 10, none, .mv (.t 6), [], 0⟩,
    ⟨some 11, none, .mv (.t 0), [], 0⟩,
    ⟨some 12, none, .len false (.k 11), [], 0⟩,
    ⟨some 13, none, .bin .lss (.k 10) (.k 12), [], 0⟩,
    ⟨some 14, none, .mv (.k 13), [], 0⟩,
    ⟨some 15, some (14, true), .mv (.t 1), [], 0⟩,
    ⟨some 16, some (14, true), .bin .gtr (.k 15) (.c (.i .i64 0)), [], 0⟩,
    ⟨some 17, none, .pick (.k 14) (.k 16) (.c (.b false)), [], 0⟩] false [0, 1, 5, 6, 17] [5])
  (.cond 17 .skip
  (.exit 0)))
  (.seq (.blk 1 (.reg [.thaw 5] [⟨some 20, none, .mv (.t 5), [], 0⟩,
    ⟨some 21, none, .mv (.t 6), [0], 0⟩,
    ⟨some 22, none, .mv (.t 1), [0, 1], 0⟩,
    ⟨some 23, none, .bin .rem (.k 21) (.k 22), [0], 0⟩,
    ⟨some 24, none, .mv (.t 5), [0, 1, 2, 3], 0⟩,
    ⟨some 25, none, .mv (.t 6), [0, 1, 2, 3, 4], 0⟩,
    ⟨some 26, none, .mv (.t 1), [0, 1, 2, 3, 4, 5], 0⟩,
    ⟨some 27, none, .bin .rem (.k 25) (.k 26), [0, 1, 2, 3, 4], 0⟩,
    ⟨some 28, none, .ia 1 none (.k 24) (.k 27), [0, 1, 2, 3], 0⟩,
    ⟨some 29, none, .ld false 1 .tk (.k 28), [0, 1, 2, 3], 0⟩,
    ⟨some 30, none, .mv (.t 0), [0, 1, 2, 3, 4, 5, 6, 7, 8, 9], 0⟩,
    ⟨some 31, none, .mv (.t 6), [0, 1, 2, 3, 4, 5, 6, 7, 8, 9, 10], 0⟩,
    ⟨some 32, none, .ia 2 none (.k 30) (.k 31), [0, 1, 2, 3, 4, 5, 6, 7, 8, 9], 0⟩,
    ⟨some 33, none, .ld true 2 .cp (.k 32), [0, 1, 2, 3, 4, 5, 6, 7, 8, 9], 0⟩,
    ⟨some 34, none, .bs 2 1 (.a ([.f .f64 0, .i .i64 0])) [(0, .k 33)], [0, 1, 2, 3, 4, 5, 6, 7, 8, 9], 0⟩,
    ⟨some 35, none, .app 2 16 (.k 29) (.k 34), [0, 1, 2, 3], 1⟩,
    ⟨some 36, none, .ia 1 none (.k 20) (.k 23), [], 0⟩,
    ⟨none, none, .st 1 (.k 36) (.k 35), [], 0⟩] true [0, 1, 5, 6] [5]))
  (.reg [] [⟨some 18, none, .mv (.k 6), [], 0⟩,
    ⟨some 19, none, .bin .add (.k 18) (.c (.i .i64 1)), [], 0⟩,
    ⟨some 6, none, .mv (.k 19), [], 0⟩] false [0, 1, 5, 6] [5]))))))
  (.seq (.reg [.unth 5] [⟨some 37, none, .mv (.k 5), [], 0⟩,
    ⟨some 4, none, .mv (.k 37), [], 0⟩] false [4] [])
  .ret))))⟩

def F_pile_Item_Cmp : F := ⟨2, [.inl 4],
  (.seq (.reg [] [⟨some 2, none, .bx (.k 0), [], 0⟩,
    ⟨some 3, none, .bx (.k 1), [], 0⟩,
    ⟨some 4, none, .mv (.c (.i .i64 0)), [], 0⟩] false [2, 3] [2, 3])
  (.seq (.seq (.reg [] [⟨some 6, none, .fa 0 (.t 2), [], 0⟩,
    ⟨some 7, none, .ld false 1 .cp (.k 6), [], 0⟩,
    ⟨some 8, none, .fa 0 (.t 3), [], 0⟩,
    ⟨some 9, none, .ld false 1 .cp (.k 8), [], 0⟩,
    ⟨some 10, none, .call n_real_Cmp [.k 7, .k 9], [], 0⟩,
    ⟨some 5, none, .mv (.k 10), [], 0⟩] false [2, 3, 5] [2, 3])
  (.seq (.reg [] [⟨some 11, none, .mv (.t 5), [], 0⟩,
    ⟨some 12, none, .bin .neq (.k 11) (.c (.i .i64 0)), [], 0⟩] false [2, 3, 5, 12] [2, 3])
  (.cond 12 (.seq (.reg [] [⟨some 13, none, .mv (.k 5), [], 0⟩,
    ⟨some 4, none, .mv (.k 13), [], 0⟩] false [4] [])
  .ret)
  .skip)))
  (.seq (.blk 0 (.seq (.reg [] [⟨some 15, none, .fa 1 (.t 2), [], 0⟩,
    ⟨some 16, none, .ld false 1 .cp (.k 15), [], 0⟩,
    ⟨some 17, none, .fa 1 (.t 3), [], 0⟩,
    ⟨some 18, none, .ld false 1 .cp (.k 17), [], 0⟩,
    ⟨some 19, none, .bin .lss (.k 16) (.k 18), [], 0⟩,
    ⟨some 14, none, .mv (.k 19), [], 0⟩] false [2, 3, 14] [2, 3])
  (.cond 14 (.seq (.reg [] [⟨some 4, none, .mv (.c (.i .i64 (-1))), [], 0⟩] false [4] [])
  .ret)
  (.seq (.reg [] [⟨some 21, none, .fa 1 (.k 2), [], 0⟩,
    ⟨some 22, none, .ld false 1 .cp (.k 21), [], 0⟩,
    ⟨some 23, none, .fa 1 (.k 3), [], 0⟩,
    ⟨some 24, none, .ld false 1 .cp (.k 23), [], 0⟩,
    ⟨some 25, none, .bin .gtr (.k 22) (.k 24), [], 0⟩,
    ⟨some 20, none, .mv (.k 25), [], 0⟩] false [20] [])
  (.cond 20 (.seq (.reg [] [⟨some 4, none, .mv (.c (.i .i64 1)), [], 0⟩] false [4] [])
  .ret)
  .skip)))))
  (.seq (.reg [] [⟨some 4, none, .mv (.c (.i .i64 0)), [], 0⟩] false [4] [])
  .ret))))⟩

def F_c_law17_Make : F := ⟨1, [.inr (2, true, 5)],
  (.seq (.reg [.zz 0] [⟨some 1, none, .bx (.k 0), [], 0⟩,
    ⟨some 2, none, .al ([.i .i64 0, .i .i64 0, .i .u64 0, .l .x 1 [], .l .x 1 []]), [], 0⟩] false [1, 2] [1, 2])
  (.seq (.reg [] [⟨some 13, none, .fa 0 (.t 1), [], 0⟩,
    ⟨some 14, none, .ld false 1 .cp (.k 13), [], 0⟩,
    ⟨some 15, none, .fa 1 (.t 1), [], 0⟩,
    ⟨some 16, none, .ld false 1 .cp (.k 15), [], 0⟩,
    ⟨some 17, none, .call n_c_law12_Kind [.k 14, .k 16], [], 0⟩,
    ⟨some 12, none, .mv (.k 17), [], 0⟩,
    ⟨some 18, none, .ex false 0 12, [], 0⟩,
    ⟨some 19, none, .ex false 1 12, [], 0⟩,
    ⟨some 3, none, .mv (.k 18), [], 0⟩,
    ⟨some 4, none, .mv (.k 19), [], 0⟩] false [1, 2, 3, 4] [1, 2])
  (.seq (.reg [] [⟨some 20, none, .mv (.t 3), [], 0⟩,
    ⟨some 21, none, .mv (.t 4), [], 0⟩,
    ⟨some 22, none, .fa 2 (.t 1), [], 0⟩,
    ⟨some 23, none, .ld false 1 .cp (.k 22), [], 0⟩,
    ⟨some 24, none, .bd ([.i .i64 0, .i .i64 0, .i .u64 0, .l .x 1 [], .l .x 1 []]) [(0, 1, .k 20), (1, 1, .k 21), (2, 1, .k 23)], [], 0⟩,
    ⟨some 5, none, .al ([.i .i64 0, .i .i64 0, .i .u64 0, .l .x 1 [], .l .x 1 []]), [], 0⟩,
    ⟨none, none, .st 5 (.t 5) (.k 24), [], 0⟩] false [1, 2, 3, 4, 5] [1, 2, 5])
  (.seq (.reg [] [⟨some 25, none, .mv (.t 4), [], 0⟩,
    ⟨some 26, none, .bs 1 5 (.i .i64 0) [(0, .c (.i .i64 0)), (1, .k 25), (2, .c (.i .i64 1)), (3, .c (.i .i64 0)), (4, .c (.i .i64 0))], [], 1⟩,
    ⟨some 27, none, .mv (.t 3), [0, 1], 0⟩,
    ⟨some 28, none, .ia 1 none (.k 26) (.k 27), [], 0⟩,
    ⟨some 29, none, .ld false 1 .cp (.k 28), [], 0⟩,
    ⟨some 30, none, .mv (.t 4), [0, 1, 2, 3, 4], 0⟩,
    ⟨some 31, none, .bs 1 5 (.i .i64 0) [(0, .c (.i .i64 0)), (1, .c (.i .i64 0)), (2, .c (.i .i64 0)), (3, .k 30), (4, .c (.i .i64 1))], [0, 1, 2, 3, 4], 1⟩,
    ⟨some 32, none, .mv (.t 3), [0, 1, 2, 3, 4, 5, 6], 0⟩,
    ⟨some 33, none, .ia 1 none (.k 31) (.k 32), [0, 1, 2, 3, 4], 0⟩,
    ⟨some 34, none, .ld false 1 .cp (.k 33), [0, 1, 2, 3, 4], 0⟩,
    ⟨some 6, none, .mv (.k 29), [5, 6, 7, 8, 9], 0⟩,
    ⟨some 7, none, .mv (.k 34), [], 0⟩] true [1, 2, 3, 5, 6, 7] [1, 2, 5])
  (.seq (.seq (.reg [] [⟨some 35, none, .mv (.t 6), [], 0⟩,
    ⟨some 36, none, .mv (.c (.i .i64 0)), [], 0⟩] false [1, 2, 3, 5, 6, 7, 35, 36] [1, 2, 5])
  (.blk 0 (.loop (.seq (.reg [] [⟨some 37, none, .bin .lss (.t 36) (.t 35), [], 0⟩] false [1, 2, 3, 5, 6, 7, 35, 36, 37] [1, 2, 5])
  (.seq (.cond 37 .skip
  (.exit 0))
  (.seq (.blk 1 (.reg [] [⟨some 38, none, .fa 3 (.t 5), [], 0⟩,
    ⟨some 39, none, .ld false 1 .tk (.k 38), [], 0⟩,
    ⟨some 40, none, .bs 2 0 (.a ([.f .f64 0, .i .i64 0])) [], [], 1⟩,
    ⟨some 41, none, .bs 1 1 (.l .o 2 []) [(0, .k 40)], [], 0⟩,
    ⟨some 42, none, .app 1 24 (.k 39) (.k 41), [], 0⟩,
    ⟨some 43, none, .fa 3 (.t 5), [], 0⟩,
    ⟨none, none, .st 1 (.k 43) (.k 42), [], 0⟩] false [1, 2, 3, 5, 6, 7, 35, 36] [1, 2, 5]))
  (.reg [] [⟨some 44, none, .bin .add (.k 36) (.c (.i .i64 1)), [], 0⟩,
    ⟨some 36, none, .mv (.k 44), [], 0⟩] false [1, 2, 3, 5, 6, 7, 35, 36] [1, 2, 5])))))))
  (.seq (.seq (.reg [] [⟨some 8, none, .mv (.c (.i .i64 0)), [], 0⟩] false [1, 2, 3, 5, 6, 7, 8] [1, 2, 5])
  (.blk 2 (.loop (.seq (.seq (.reg [] [⟨some 45, none, .mv (.t 8), [], 0⟩,
    ⟨some 46, none, .fa 3 (.t 1), [], 0⟩,
    ⟨some 47, none, .ld false 1 .cp (.k 46), [], 0⟩,
    ⟨some 48, none, .len false (.k 47), [], 0⟩,
    ⟨some 49, none, .bin .lss (.k 45) (.k 48), [], 0⟩,
    ⟨some 50, none, .mv (.k 49), [], 0⟩,
    ⟨some 51, some (50, true), .mv (.t 8), [], 0⟩,
    ⟨some 52, some (50, true), .bin .lss (.k 51) (.c (.i .i64 60)), [], 0⟩,
    ⟨some 53, none, .pick (.k 50) (.k 52) (.c (.b false)), [], 0⟩,
    ⟨some 54, none, .mv (.k 53), [], 0⟩,
    ⟨some 55, some (54, true), .mv (.t 6), [], 0⟩,
    ⟨some 56, some (54, true), .bin .gtr (.k 55) (.c (.i .i64 0)), [], 0⟩,
    ⟨some 57, none, .pick (.k 54) (.k 56) (.c (.b false)), [], 0⟩] false [1, 2, 3, 5, 6, 7, 8, 57] [1, 2, 5])
  (.cond 57 .skip
  (.exit 2)))
  (.seq (.blk 3 (.reg [] [⟨some 60, none, .fa 3 (.t 5), [], 0⟩,
    ⟨some 61, none, .lda 1 (.k 60), [], 0⟩,
    ⟨some 62, none, .mv (.t 8), [0, 1], 0⟩,
    ⟨some 63, none, .mv (.t 6), [0, 1, 2], 0⟩,
    ⟨some 64, none, .bin .rem (.k 62) (.k 63), [0, 1], 0⟩,
    ⟨some 65, none, .fa 3 (.t 5), [0, 1, 2, 3, 4], 0⟩,
    ⟨some 66, none, .lda 1 (.k 65), [0, 1, 2, 3, 4], 1⟩,
    ⟨some 67, none, .mv (.t 8), [0, 1, 2, 3, 4, 5, 6], 0⟩,
    ⟨some 68, none, .mv (.t 6), [0, 1, 2, 3, 4, 5, 6, 7], 0⟩,
    ⟨some 69, none, .bin .rem (.k 67) (.k 68), [0, 1, 2, 3, 4, 5, 6], 0⟩,
    ⟨some 70, none, .ia 1 none (.k 66) (.k 69), [0, 1, 2, 3, 4], 0⟩,
    ⟨some 71, none, .ld false 1 .tk (.k 70), [0, 1, 2, 3, 4], 0⟩,
    ⟨some 72, none, .fa 3 (.t 1), [0, 1, 2, 3, 4, 5, 6, 7, 8, 9, 10, 11], 0⟩,
    ⟨some 73, none, .ld false 1 .cp (.k 72), [0, 1, 2, 3, 4, 5, 6, 7, 8, 9, 10, 11], 0⟩,
    ⟨some 74, none, .mv (.t 8), [0, 1, 2, 3, 4, 5, 6, 7, 8, 9, 10, 11, 12, 13], 0⟩,
    ⟨some 75, none, .ia 2 none (.k 73) (.k 74), [0, 1, 2, 3, 4, 5, 6, 7, 8, 9, 10, 11], 0⟩,
    ⟨some 76, none, .ld true 2 .cp (.k 75), [0, 1, 2, 3, 4, 5, 6, 7, 8, 9, 10, 11], 0⟩,
    ⟨some 77, none, .call n_c_law04_Own [.k 76], [0, 1, 2, 3, 4, 5, 6, 7, 8, 9, 10, 11], 0⟩,
    ⟨some 78, none, .call n_pile_Item_Canon [.k 77], [0, 1, 2, 3, 4, 5, 6, 7, 8, 9, 10, 11], 0⟩,
    ⟨some 79, none, .bs 2 1 (.a ([.f .f64 0, .i .i64 0])) [(0, .k 78)], [0, 1, 2, 3, 4, 5, 6, 7, 8, 9, 10, 11], 0⟩,
    ⟨some 80, none, .app 2 16 (.k 71) (.k 79), [0, 1, 2, 3, 4], 1⟩,
    ⟨some 81, none, .ia 1 none (.k 61) (.k 64), [], 0⟩,
    ⟨none, none, .st 1 (.k 81) (.k 80), [], 0⟩] true [1, 2, 3, 5, 6, 7, 8] [1, 2, 5]))
  (.reg [] [⟨some 58, none, .mv (.k 8), [], 0⟩,
    ⟨some 59, none, .bin .add (.k 58) (.c (.i .i64 1)), [], 0⟩,
    ⟨some 8, none, .mv (.k 59), [], 0⟩] false [1, 2, 3, 5, 6, 7, 8] [1, 2, 5]))))))
  (.seq (.seq (.reg [] [⟨some 82, none, .fa 3 (.t 5), [], 0⟩,
    ⟨some 83, none, .lda 1 (.k 82), [], 1⟩,
    ⟨some 84, none, .len false (.k 83), [], 0⟩,
    ⟨some 85, none, .mv (.c (.i .i64 0)), [], 0⟩] false [1, 2, 3, 5, 7, 84, 85] [1, 2, 5])
  (.blk 4 (.loop (.seq (.reg [] [⟨some 86, none, .bin .lss (.t 85) (.t 84), [], 0⟩] false [1, 2, 3, 5, 7, 84, 85, 86] [1, 2, 5])
  (.seq (.cond 86 .skip
  (.exit 4))
  (.seq (.blk 5 (.seq (.reg [] [⟨some 87, none, .mv (.t 85), [], 0⟩,
    ⟨some 9, none, .mv (.k 87), [], 0⟩] false [1, 2, 3, 5, 7, 9, 84, 85] [1, 2, 5])
  (.seq (.reg [] [⟨some 88, none, .mv (.t 3), [], 0⟩,
    ⟨some 89, none, .bin .eql (.k 88) (.c (.i .i64 1)), [], 0⟩] false [1, 2, 3, 5, 7, 9, 84, 85, 89] [1, 2, 5])
  (.cond 89 (.reg [] [⟨some 90, none, .fa 3 (.t 5), [], 0⟩,
    ⟨some 91, none, .lda 1 (.k 90), [], 0⟩,
    ⟨some 92, none, .mv (.t 9), [0, 1], 0⟩,
    ⟨some 93, none, .fa 3 (.t 5), [0, 1, 2], 0⟩,
    ⟨some 94, none, .lda 1 (.k 93), [0, 1, 2], 1⟩,
    ⟨some 95, none, .mv (.t 9), [0, 1, 2, 3, 4], 0⟩,
    ⟨some 96, none, .ia 1 none (.k 94) (.k 95), [0, 1, 2], 0⟩,
    ⟨some 97, none, .ld false 1 .cp (.k 96), [0, 1, 2], 2⟩,
    ⟨some 98, none, .call n_c_law17_sorted [.k 97], [0, 1, 2], 0⟩,
    ⟨some 99, none, .ia 1 none (.k 91) (.k 92), [], 0⟩,
    ⟨none, none, .st 1 (.k 99) (.k 98), [], 0⟩] true [1, 2, 3, 5, 7, 84, 85] [1, 2, 5])
  .skip))))
  (.reg [] [⟨some 100, none, .bin .add (.k 85) (.c (.i .i64 1)), [], 0⟩,
    ⟨some 85, none, .mv (.k 100), [], 0⟩] false [1, 2, 3, 5, 7, 84, 85] [1, 2, 5])))))))
  (.seq (.seq (.reg [] [⟨some 101, none, .mv (.k 7), [], 0⟩,
    ⟨some 102, none, .mv (.c (.i .i64 0)), [], 0⟩] false [1, 2, 5, 101, 102] [1, 2, 5])
  (.blk 6 (.loop (.seq (.reg [] [⟨some 103, none, .bin .lss (.t 102) (.t 101), [], 0⟩] false [1, 2, 5, 101, 102, 103] [1, 2, 5])
  (.seq (.cond 103 .skip
  (.exit 6))
  (.seq (.blk 7 (.seq (.reg [] [⟨some 104, none, .mv (.t 102), [], 0⟩,
    ⟨some 10, none, .mv (.k 104), [], 0⟩] false [1, 2, 5, 10, 101, 102] [1, 2, 5])
  (.seq (.reg [] [⟨some 11, none, .mv (.c (.i .i64 0)), [], 0⟩] false [1, 2, 5, 10, 11, 101, 102] [1, 2, 5])
  (.seq (.seq (.reg [] [⟨some 105, none, .mv (.t 10), [], 0⟩,
    ⟨some 106, none, .fa 4 (.t 1), [], 0⟩,
    ⟨some 107, none, .ld false 1 .cp (.k 106), [], 0⟩,
    ⟨some 108, none, .len false (.k 107), [], 0⟩,
    ⟨some 109, none, .bin .lss (.k 105) (.k 108), [], 0⟩] false [1, 2, 5, 10, 11, 101, 102, 109] [1, 2, 5])
  (.cond 109 (.reg [] [⟨some 110, none, .fa 4 (.t 1), [], 0⟩,
    ⟨some 111, none, .ld false 1 .cp (.k 110), [], 0⟩,
    ⟨some 112, none, .mv (.k 10), [], 0⟩,
    ⟨some 113, none, .ia 1 none (.k 111) (.k 112), [], 0⟩,
    ⟨some 114, none, .ld false 1 .cp (.k 113), [], 0⟩,
    ⟨some 115, none, .bin .and (.k 114) (.c (.i .i64 1099511627775)), [], 0⟩,
    ⟨some 11, none, .mv (.k 115), [], 0⟩] false [1, 2, 5, 11, 101, 102] [1, 2, 5])
  .skip))
  (.reg [] [⟨some 116, none, .fa 4 (.t 5), [], 0⟩,
    ⟨some 117, none, .ld false 1 .tk (.k 116), [], 0⟩,
    ⟨some 118, none, .mv (.k 11), [], 0⟩,
    ⟨some 119, none, .bs 1 1 (.i .i64 0) [(0, .k 118)], [], 0⟩,
    ⟨some 120, none, .app 1 8 (.k 117) (.k 119), [], 0⟩,
    ⟨some 121, none, .fa 4 (.t 5), [], 0⟩,
    ⟨none, none, .st 1 (.k 121) (.k 120), [], 0⟩] false [1, 2, 5, 101, 102] [1, 2, 5])))))
  (.reg [] [⟨some 122, none, .bin .add (.k 102) (.c (.i .i64 1)), [], 0⟩,
    ⟨some 102, none, .mv (.k 122), [], 0⟩] false [1, 2, 5, 101, 102] [1, 2, 5])))))))
  (.seq (.reg [] [⟨some 123, none, .ld true 5 .tk (.k 5), [], 0⟩,
    ⟨none, none, .st 5 (.t 2) (.k 123), [], 0⟩] false [2] [2])
  .ret)))))))))⟩

def F_spread_Lay : F := ⟨1, [.inl 2, .inl 3],
  (.seq (.reg [.zz 0] [⟨some 1, none, .bx (.k 0), [], 0⟩,
    ⟨some 2, none, .mv (.c (.nilp)), [], 0⟩,
    ⟨some 3, none, .mv (.c (.i .i64 0)), [], 0⟩] false [1] [1])
  (.seq (.reg [] [⟨some 10, none, .ld true 5 .cp (.t 1), [], 2⟩,
    ⟨some 11, none, .call n_image_Image_Check [.k 10], [], 0⟩,
    ⟨some 4, none, .mv (.k 11), [], 0⟩] false [1, 4] [1])
  (.seq (.seq (.reg [] [⟨some 12, none, .mv (.t 4), [], 0⟩,
    ⟨some 13, none, .bin .eql (.k 12) (.c (.i .i64 0)), [], 0⟩,
    ⟨some 14, none, .mv (.k 13), [], 0⟩,
    ⟨some 15, some (14, true), .fa 0 (.t 1), [], 0⟩,
    ⟨some 16, some (14, true), .ld false 1 .cp (.k 15), [], 0⟩,
    ⟨some 17, some (14, true), .bin .eql (.k 16) (.c (.i .i64 2)), [], 0⟩,
    ⟨some 18, none, .pick (.t 14) (.k 17) (.c (.b false)), [], 0⟩,
    ⟨some 19, none, .mv (.k 18), [], 0⟩,
    ⟨some 20, some (19, true), .fa 3 (.t 1), [], 0⟩,
    ⟨some 21, some (19, true), .ld false 1 .cp (.k 20), [], 0⟩,
    ⟨some 22, some (19, true), .ia 1 none (.k 21) (.c (.i .i64 0)), [], 0⟩,
    ⟨some 23, some (19, true), .ld false 1 .cp (.k 22), [], 0⟩,
    ⟨some 24, some (19, true), .len false (.k 23), [], 0⟩,
    ⟨some 25, some (19, true), .fa 1 (.t 1), [8, 9, 10, 11, 12], 0⟩,
    ⟨some 26, some (19, true), .ld false 1 .cp (.k 25), [8, 9, 10, 11, 12], 0⟩,
    ⟨some 27, some (19, true), .call n_image_Room [.k 26], [8, 9, 10, 11, 12], 0⟩,
    ⟨some 28, some (19, true), .bin .gtr (.k 24) (.k 27), [], 0⟩,
    ⟨some 29, none, .pick (.t 19) (.k 28) (.c (.b false)), [], 0⟩] true [1, 4, 29] [1])
  (.cond 29 (.reg [] [⟨some 4, none, .mv (.c (.i .i64 3)), [], 0⟩] false [1, 4] [1])
  .skip))
  (.seq (.seq (.reg [] [⟨some 30, none, .mv (.t 4), [], 0⟩,
    ⟨some 31, none, .bin .neq (.k 30) (.c (.i .i64 0)), [], 0⟩] false [1, 4, 31] [1])
  (.cond 31 (.seq (.reg [] [⟨some 32, none, .mv (.k 4), [], 0⟩,
    ⟨some 2, none, .mv (.c (.nilp)), [], 0⟩,
    ⟨some 3, none, .mv (.k 32), [], 0⟩] false [2, 3] [])
  .ret)
  .skip))
  (.seq (.reg [] [⟨some 33, none, .call n_cell_New [], [], 0⟩,
    ⟨some 5, none, .mv (.k 33), [], 0⟩] false [1, 5] [1])
  (.seq (.seq (.reg [] [⟨some 34, none, .fa 0 (.t 1), [], 0⟩,
    ⟨some 35, none, .ld false 1 .cp (.k 34), [], 0⟩] false [1, 5, 35] [1])
  (.blk 0 (.seq (.reg [] [⟨some 37, none, .bin .eql (.t 35) (.c (.i .i64 1)), [], 0⟩,
    ⟨some 36, none, .mv (.k 37), [], 0⟩] false [1, 5, 35, 36] [1])
  (.cond 36 (.seq (.reg [] [⟨some 38, none, .fa 3 (.k 1), [], 0⟩,
    ⟨some 39, none, .ld false 1 .tk (.k 38), [], 0⟩,
    ⟨some 40, none, .len false (.t 39), [], 0⟩,
    ⟨some 41, none, .mv (.c (.i .i64 0)), [], 0⟩] false [5, 39, 40, 41] [])
  (.blk 1 (.loop (.seq (.reg [] [⟨some 42, none, .bin .lss (.t 41) (.t 40), [], 0⟩] false [5, 39, 40, 41, 42] [])
  (.seq (.cond 42 .skip
  (.exit 1))
  (.seq (.blk 2 (.seq (.reg [] [⟨some 43, none, .mv (.t 41), [], 0⟩,
    ⟨some 44, none, .ia 1 none (.t 39) (.t 41), [], 0⟩,
    ⟨some 45, none, .ld false 1 .cp (.k 44), [], 0⟩,
    ⟨some 6, none, .mv (.k 43), [], 0⟩,
    ⟨some 7, none, .mv (.k 45), [], 0⟩] false [5, 6, 7, 39, 40, 41] [])
  (.reg [] [⟨some 46, none, .mv (.t 5), [], 0⟩,
    ⟨some 47, none, .mv (.k 6), [], 0⟩,
    ⟨some 48, none, .mv (.k 7), [], 2⟩,
    ⟨some 49, none, .call n_pile_Sorted [.k 48], [], 0⟩,
    ⟨some 50, none, .bd ([.i .i64 0, .l .o 2 []]) [(1, 1, .k 49)], [], 2⟩,
    ⟨some 51, none, .call n_cell_Memory_Force [.k 46, .k 47, .k 50], [], 0⟩] false [5, 39, 40, 41] [])))
  (.reg [] [⟨some 52, none, .bin .add (.k 41) (.c (.i .i64 1)), [], 0⟩,
    ⟨some 41, none, .mv (.k 52), [], 0⟩] false [5, 39, 40, 41] [])))))))
  (.seq (.reg [] [⟨some 54, none, .bin .eql (.t 35) (.c (.i .i64 2)), [], 0⟩,
    ⟨some 53, none, .mv (.k 54), [], 0⟩] false [1, 5, 35, 53] [1])
  (.cond 53 (.reg [] [⟨some 55, none, .mv (.t 5), [], 0⟩,
    ⟨some 56, none, .ld true 5 .tk (.k 1), [], 2⟩,
    ⟨some 57, none, .call n_spread_fifo [.k 55, .k 56], [], 0⟩] false [5] [])
  (.seq (.reg [] [⟨some 59, none, .bin .eql (.t 35) (.c (.i .i64 3)), [], 0⟩,
    ⟨some 58, none, .mv (.k 59), [], 0⟩] false [1, 5, 35, 58] [1])
  (.cond 58 (.seq (.reg [] [⟨some 60, none, .fa 4 (.k 1), [], 0⟩,
    ⟨some 61, none, .ld false 1 .tk (.k 60), [], 0⟩,
    ⟨some 62, none, .len false (.t 61), [], 0⟩,
    ⟨some 63, none, .mv (.c (.i .i64 0)), [], 0⟩] false [5, 61, 62, 63] [])
  (.blk 3 (.loop (.seq (.reg [] [⟨some 64, none, .bin .lss (.t 63) (.t 62), [], 0⟩] false [5, 61, 62, 63, 64] [])
  (.seq (.cond 64 .skip
  (.exit 3))
  (.seq (.blk 4 (.seq (.reg [] [⟨some 65, none, .mv (.t 63), [], 0⟩,
    ⟨some 66, none, .ia 1 none (.t 61) (.t 63), [], 0⟩,
    ⟨some 67, none, .ld false 1 .cp (.k 66), [], 0⟩,
    ⟨some 8, none, .mv (.k 65), [], 0⟩,
    ⟨some 9, none, .mv (.k 67), [], 0⟩] false [5, 8, 9, 61, 62, 63] [])
  (.reg [] [⟨some 68, none, .mv (.t 5), [], 0⟩,
    ⟨some 69, none, .mv (.k 8), [], 0⟩,
    ⟨some 70, none, .mv (.k 9), [], 0⟩,
    ⟨some 71, none, .bd ([.i .i64 0, .l .o 2 []]) [(0, 1, .k 70)], [], 2⟩,
    ⟨some 72, none, .call n_cell_Memory_Force [.k 68, .k 69, .k 71], [], 0⟩] false [5, 61, 62, 63] [])))
  (.reg [] [⟨some 73, none, .bin .add (.k 63) (.c (.i .i64 1)), [], 0⟩,
    ⟨some 63, none, .mv (.k 73), [], 0⟩] false [5, 61, 62, 63] [])))))))
  (.seq (.reg [] [⟨some 75, none, .bin .eql (.k 35) (.c (.i .i64 4)), [], 0⟩,
    ⟨some 74, none, .mv (.k 75), [], 0⟩] false [1, 5, 74] [1])
  (.cond 74 (.reg [] [⟨some 76, none, .mv (.t 5), [], 0⟩,
    ⟨some 77, none, .ld true 5 .tk (.k 1), [], 2⟩,
    ⟨some 78, none, .call n_spread_tokens [.k 76, .k 77], [], 0⟩] false [5] [])
  .skip))))))))))
  (.seq (.reg [] [⟨some 79, none, .mv (.k 5), [], 0⟩,
    ⟨some 2, none, .mv (.k 79), [], 0⟩,
    ⟨some 3, none, .mv (.c (.i .i64 0)), [], 0⟩] false [2, 3] [])
  .ret)))))))⟩

def F_c_ref18_Lay : F := ⟨1, [.inr (2, true, 1), .inl 3],
  (.seq (.reg [.zz 0] [⟨some 1, none, .bx (.k 0), [], 0⟩,
    ⟨some 2, none, .al ([.l .o 3 []]), [], 0⟩,
    ⟨some 3, none, .mv (.c (.i .i64 0)), [], 0⟩] false [1, 2] [1, 2])
  (.seq (.reg [] [⟨some 15, none, .bs 3 0 (.a ([.i .i64 0, .i .i64 0, .l .o 2 []])) [], [], 1⟩,
    ⟨some 16, none, .bd ([.l .o 3 []]) [(0, 1, .k 15)], [], 0⟩,
    ⟨some 4, none, .al ([.l .o 3 []]), [], 0⟩,
    ⟨none, none, .st 1 (.t 4) (.k 16), [], 0⟩] false [1, 2, 4] [1, 2, 4])
  (.seq (.seq (.reg [] [⟨some 17, none, .ld true 5 .cp (.t 1), [], 2⟩,
    ⟨some 18, none, .call n_c_ref17_Check [.k 17], [], 0⟩,
    ⟨some 5, none, .mv (.k 18), [], 0⟩] false [1, 2, 4, 5] [1, 2, 4])
  (.seq (.reg [] [⟨some 19, none, .mv (.t 5), [], 0⟩,
    ⟨some 20, none, .bin .neq (.k 19) (.c (.i .i64 0)), [], 0⟩] false [1, 2, 4, 5, 20] [1, 2, 4])
  (.cond 20 (.seq (.reg [] [⟨some 21, none, .ld true 1 .tk (.k 4), [], 0⟩,
    ⟨some 22, none, .mv (.k 5), [], 0⟩,
    ⟨none, none, .st 1 (.t 2) (.k 21), [], 0⟩,
    ⟨some 3, none, .mv (.k 22), [], 0⟩] false [2, 3] [2])
  .ret)
  .skip)))
  (.seq (.seq (.reg [] [⟨some 23, none, .fa 0 (.t 1), [], 0⟩,
    ⟨some 24, none, .ld false 1 .cp (.k 23), [], 0⟩] false [1, 2, 4, 24] [1, 2, 4])
  (.blk 0 (.seq (.reg [] [⟨some 26, none, .bin .eql (.t 24) (.c (.i .i64 1)), [], 0⟩,
    ⟨some 25, none, .mv (.k 26), [], 0⟩] false [1, 2, 4, 24, 25] [1, 2, 4])
  (.cond 25 (.seq (.reg [] [⟨some 27, none, .fa 3 (.k 1), [], 0⟩,
    ⟨some 28, none, .ld false 1 .tk (.k 27), [], 0⟩,
    ⟨some 29, none, .len false (.t 28), [], 0⟩,
    ⟨some 30, none, .mv (.c (.i .i64 0)), [], 0⟩] false [2, 4, 28, 29, 30] [2, 4])
  (.blk 1 (.loop (.seq (.reg [] [⟨some 31, none, .bin .lss (.t 30) (.t 29), [], 0⟩] false [2, 4, 28, 29, 30, 31] [2, 4])
  (.seq (.cond 31 .skip
  (.exit 1))
  (.seq (.blk 2 (.seq (.reg [] [⟨some 32, none, .mv (.t 30), [], 0⟩,
    ⟨some 33, none, .ia 1 none (.t 28) (.t 30), [], 0⟩,
    ⟨some 34, none, .ld false 1 .cp (.k 33), [], 0⟩,
    ⟨some 6, none, .mv (.k 32), [], 0⟩,
    ⟨some 7, none, .mv (.k 34), [], 0⟩] false [2, 4, 6, 7, 28, 29, 30] [2, 4])
  (.reg [] [⟨some 35, none, .fa 0 (.t 4), [], 0⟩,
    ⟨some 36, none, .ld false 1 .tk (.k 35), [], 0⟩,
    ⟨some 37, none, .mv (.k 6), [], 0⟩,
    ⟨some 38, none, .mv (.k 7), [], 0⟩,
    ⟨some 39, none, .bd ([.i .i64 0, .l .o 2 []]) [(1, 1, .k 38)], [], 0⟩,
    ⟨some 40, none, .bd ([.i .i64 0, .i .i64 0, .l .o 2 []]) [(0, 1, .k 37), (1, 2, .k 39)], [], 0⟩,
    ⟨some 41, none, .bs 3 1 (.a ([.i .i64 0, .i .i64 0, .l .o 2 []])) [(0, .k 40)], [], 0⟩,
    ⟨some 42, none, .app 3 40 (.k 36) (.k 41), [], 1⟩,
    ⟨some 43, none, .fa 0 (.t 4), [], 0⟩,
    ⟨none, none, .st 1 (.k 43) (.k 42), [], 0⟩] false [2, 4, 28, 29, 30] [2, 4])))
  (.reg [] [⟨some 44, none, .bin .add (.k 30) (.c (.i .i64 1)), [], 0⟩,
    ⟨some 30, none, .mv (.k 44), [], 0⟩] false [2, 4, 28, 29, 30] [2, 4])))))))
  (.seq (.reg [] [⟨some 46, none, .bin .eql (.t 24) (.c (.i .i64 2)), [], 0⟩,
    ⟨some 45, none, .mv (.k 46), [], 0⟩] false [1, 2, 4, 24, 45] [1, 2, 4])
  (.cond 45 (.seq (.reg [] [⟨some 47, none, .fa 3 (.t 1), [], 0⟩,
    ⟨some 48, none, .ld false 1 .cp (.k 47), [], 0⟩,
    ⟨some 49, none, .ia 1 none (.k 48) (.c (.i .i64 0)), [], 0⟩,
    ⟨some 50, none, .ld false 1 .cp (.k 49), [], 0⟩,
    ⟨some 8, none, .mv (.k 50), [], 0⟩] false [1, 2, 4, 8] [1, 2, 4])
  (.seq (.seq (.reg [] [⟨some 51, none, .mv (.t 8), [], 0⟩,
    ⟨some 52, none, .len false (.k 51), [], 0⟩,
    ⟨some 53, none, .fa 1 (.t 1), [], 0⟩,
    ⟨some 54, none, .ld false 1 .cp (.k 53), [], 0⟩,
    ⟨some 55, none, .call n_c_ref18_room [.k 54], [], 0⟩,
    ⟨some 56, none, .bin .gtr (.k 52) (.k 55), [], 0⟩] false [1, 2, 4, 8, 56] [1, 2, 4])
  (.cond 56 (.seq (.reg [] [⟨some 57, none, .ld true 1 .tk (.k 4), [], 0⟩,
    ⟨none, none, .st 1 (.t 2) (.k 57), [], 0⟩,
    ⟨some 3, none, .mv (.c (.i .i64 3)), [], 0⟩] false [2, 3] [2])
  .ret)
  .skip))
  (.seq (.seq (.reg [] [⟨some 58, none, .mv (.t 8), [], 0⟩,
    ⟨some 59, none, .len false (.t 58), [], 0⟩,
    ⟨some 60, none, .mv (.c (.i .i64 0)), [], 0⟩] false [1, 2, 4, 8, 58, 59, 60] [1, 2, 4])
  (.blk 3 (.loop (.seq (.reg [] [⟨some 61, none, .bin .lss (.t 60) (.t 59), [], 0⟩] false [1, 2, 4, 8, 58, 59, 60, 61] [1, 2, 4])
  (.seq (.cond 61 .skip
  (.exit 3))
  (.seq (.blk 4 (.seq (.reg [] [⟨some 62, none, .mv (.t 60), [], 0⟩,
    ⟨some 63, none, .ia 2 none (.t 58) (.t 60), [], 0⟩,
    ⟨some 64, none, .ld true 2 .cp (.k 63), [], 0⟩,
    ⟨some 10, none, .al ([.i .u64 0, .i .i64 0]), [], 0⟩,
    ⟨some 9, none, .mv (.k 62), [], 0⟩,
    ⟨none, none, .st 2 (.t 10) (.k 64), [], 0⟩] false [1, 2, 4, 8, 9, 10, 58, 59, 60] [1, 2, 4, 10])
  (.reg [] [⟨some 65, none, .fa 0 (.t 4), [], 0⟩,
    ⟨some 66, none, .ld false 1 .tk (.k 65), [], 0⟩,
    ⟨some 67, none, .mv (.k 9), [], 0⟩,
    ⟨some 68, none, .bin .add (.k 67) (.c (.i .i64 2)), [], 0⟩,
    ⟨some 69, none, .ld true 2 .cp (.k 10), [], 0⟩,
    ⟨some 70, none, .bs 2 1 (.a ([.i .u64 0, .i .i64 0])) [(0, .k 69)], [], 1⟩,
    ⟨some 71, none, .bd ([.i .i64 0, .l .o 2 []]) [(0, 1, .c (.i .i64 1)), (1, 1, .k 70)], [], 0⟩,
    ⟨some 72, none, .bd ([.i .i64 0, .i .i64 0, .l .o 2 []]) [(0, 1, .k 68), (1, 2, .k 71)], [], 0⟩,
    ⟨some 73, none, .bs 3 1 (.a ([.i .i64 0, .i .i64 0, .l .o 2 []])) [(0, .k 72)], [], 0⟩,
    ⟨some 74, none, .app 3 40 (.k 66) (.k 73), [], 1⟩,
    ⟨some 75, none, .fa 0 (.t 4), [], 0⟩,
    ⟨none, none, .st 1 (.k 75) (.k 74), [], 0⟩] false [1, 2, 4, 8, 58, 59, 60] [1, 2, 4])))
  (.reg [] [⟨some 76, none, .bin .add (.k 60) (.c (.i .i64 1)), [], 0⟩,
    ⟨some 60, none, .mv (.k 76), [], 0⟩] false [1, 2, 4, 8, 58, 59, 60] [1, 2, 4])))))))
  (.seq (.reg [] [⟨some 77, none, .mv (.t 8), [], 0⟩,
    ⟨some 78, none, .len false (.k 77), [], 0⟩,
    ⟨some 79, none, .bin .gtr (.k 78) (.c (.i .i64 0)), [], 0⟩] false [1, 2, 4, 8, 79] [1, 2, 4])
  (.cond 79 (.reg [] [⟨some 80, none, .ld true 1 .tk (.t 4), [], 0⟩,
    ⟨some 81, none, .mv (.k 8), [0], 0⟩,
    ⟨some 82, none, .len false (.k 81), [0], 0⟩,
    ⟨some 83, none, .bin .sub (.k 82) (.c (.i .i64 1)), [0], 0⟩,
    ⟨some 84, none, .fa 1 (.k 1), [0, 1, 2, 3], 0⟩,
    ⟨some 85, none, .ld false 1 .cp (.k 84), [0, 1, 2, 3], 0⟩,
    ⟨some 86, none, .bin .quo (.k 83) (.k 85), [0], 0⟩,
    ⟨some 87, none, .call n_c_ref18_number [.k 80, .c (.i .i64 1), .k 86], [], 0⟩,
    ⟨none, none, .st 1 (.t 4) (.k 87), [], 0⟩] true [2, 4] [2, 4])
  .skip)))))
  (.seq (.reg [] [⟨some 89, none, .bin .eql (.t 24) (.c (.i .i64 3)), [], 0⟩,
    ⟨some 88, none, .mv (.k 89), [], 0⟩] false [1, 2, 4, 24, 88] [1, 2, 4])
  (.cond 88 (.seq (.reg [] [⟨some 90, none, .fa 4 (.k 1), [], 0⟩,
    ⟨some 91, none, .ld false 1 .tk (.k 90), [], 0⟩,
    ⟨some 92, none, .len false (.t 91), [], 0⟩,
    ⟨some 93, none, .mv (.c (.i .i64 0)), [], 0⟩] false [2, 4, 91, 92, 93] [2, 4])
  (.blk 5 (.loop (.seq (.reg [] [⟨some 94, none, .bin .lss (.t 93) (.t 92), [], 0⟩] false [2, 4, 91, 92, 93, 94] [2, 4])
  (.seq (.cond 94 .skip
  (.exit 5))
  (.seq (.blk 6 (.seq (.reg [] [⟨some 95, none, .mv (.t 93), [], 0⟩,
    ⟨some 96, none, .ia 1 none (.t 91) (.t 93), [], 0⟩,
    ⟨some 97, none, .ld false 1 .cp (.k 96), [], 0⟩,
    ⟨some 11, none, .mv (.k 95), [], 0⟩,
    ⟨some 12, none, .mv (.k 97), [], 0⟩] false [2, 4, 11, 12, 91, 92, 93] [2, 4])
  (.reg [] [⟨some 98, none, .ld true 1 .tk (.t 4), [], 0⟩,
    ⟨some 99, none, .mv (.k 11), [], 0⟩,
    ⟨some 100, none, .mv (.k 12), [], 0⟩,
    ⟨some 101, none, .call n_c_ref18_number [.k 98, .k 99, .k 100], [], 0⟩,
    ⟨none, none, .st 1 (.t 4) (.k 101), [], 0⟩] false [2, 4, 91, 92, 93] [2, 4])))
  (.reg [] [⟨some 102, none, .bin .add (.k 93) (.c (.i .i64 1)), [], 0⟩,
    ⟨some 93, none, .mv (.k 102), [], 0⟩] false [2, 4, 91, 92, 93] [2, 4])))))))
  (.seq (.reg [] [⟨some 104, none, .bin .eql (.k 24) (.c (.i .i64 4)), [], 0⟩,
    ⟨some 103, none, .mv (.k 104), [], 0⟩] false [1, 2, 4, 103] [1, 2, 4])
  (.cond 103 (.seq (.reg [] [⟨some 105, none, .fa 1 (.t 1), [], 0⟩,
    ⟨some 106, none, .ld false 1 .cp (.k 105), [], 0⟩,
    ⟨some 107, none, .callp n_c_ref10_Count [.c (.i .i64 0), .k 106], [], 2⟩,
    ⟨some 108, none, .fa 4 (.t 1), [0, 1, 2], 0⟩,
    ⟨some 109, none, .ld false 1 .cp (.k 108), [0, 1, 2], 0⟩,
    ⟨some 110, none, .ia 1 none (.k 109) (.c (.i .i64 0)), [0, 1, 2], 0⟩,
    ⟨some 111, none, .ld false 1 .cp (.k 110), [0, 1, 2], 0⟩,
    ⟨some 112, none, .fa 1 (.t 1), [0, 1, 2, 3, 4, 5, 6], 0⟩,
    ⟨some 113, none, .ld false 1 .cp (.k 112), [0, 1, 2, 3, 4, 5, 6], 0⟩,
    ⟨some 114, none, .call n_c_ref18_even [.k 111, .k 113], [], 2⟩,
    ⟨some 115, none, .call n_c_ref18_pass [.k 107, .k 114], [], 0⟩,
    ⟨some 116, none, .len false (.t 115), [], 0⟩,
    ⟨some 117, none, .mv (.c (.i .i64 0)), [0, 1, 2, 3, 4, 5, 6, 7, 8, 9, 10, 11], 0⟩] true [2, 4, 115, 116, 117] [2, 4])
  (.blk 7 (.loop (.seq (.reg [] [⟨some 118, none, .bin .lss (.t 117) (.t 116), [], 0⟩] false [2, 4, 115, 116, 117, 118] [2, 4])
  (.seq (.cond 118 .skip
  (.exit 7))
  (.seq (.blk 8 (.seq (.reg [] [⟨some 119, none, .mv (.t 117), [], 0⟩,
    ⟨some 120, none, .ia 1 none (.t 115) (.t 117), [], 0⟩,
    ⟨some 121, none, .ld false 1 .cp (.k 120), [], 0⟩,
    ⟨some 13, none, .mv (.k 119), [], 0⟩,
    ⟨some 14, none, .mv (.k 121), [], 0⟩] false [2, 4, 13, 14, 115, 116, 117] [2, 4])
  (.reg [] [⟨some 122, none, .ld true 1 .tk (.t 4), [], 0⟩,
    ⟨some 123, none, .mv (.k 13), [], 0⟩,
    ⟨some 124, none, .mv (.k 14), [], 0⟩,
    ⟨some 125, none, .call n_c_ref18_number [.k 122, .k 123, .k 124], [], 0⟩,
    ⟨none, none, .st 1 (.t 4) (.k 125), [], 0⟩] false [2, 4, 115, 116, 117] [2, 4])))
  (.reg [] [⟨some 126, none, .bin .add (.k 117) (.c (.i .i64 1)), [], 0⟩,
    ⟨some 117, none, .mv (.k 126), [], 0⟩] false [2, 4, 115, 116, 117] [2, 4])))))))
  .skip))))))))))
  (.seq (.reg [] [⟨some 127, none, .ld true 1 .tk (.k 4), [], 0⟩,
    ⟨none, none, .st 1 (.t 2) (.k 127), [], 0⟩,
    ⟨some 3, none, .mv (.c (.i .i64 0)), [], 0⟩] false [2, 3] [2])
  .ret)))))⟩

def F_c_law17_Told : F := ⟨1, [.inr (2, true, 5)],
  (.seq (.reg [.zz 0] [⟨some 1, none, .bx (.k 0), [], 0⟩,
    ⟨some 2, none, .al ([.i .i64 0, .i .i64 0, .i .u64 0, .l .o 1 [], .l .o 1 []]), [], 0⟩] false [1, 2] [1, 2])
  (.seq (.reg [] [⟨some 11, none, .fa 0 (.t 1), [], 0⟩,
    ⟨some 12, none, .ld false 1 .cp (.k 11), [], 0⟩,
    ⟨some 13, none, .fa 1 (.t 1), [], 0⟩,
    ⟨some 14, none, .ld false 1 .cp (.k 13), [], 0⟩,
    ⟨some 15, none, .fa 2 (.t 1), [], 0⟩,
    ⟨some 16, none, .ld false 1 .cp (.k 15), [], 0⟩,
    ⟨some 17, none, .bd ([.i .i64 0, .i .i64 0, .i .u64 0, .l .o 1 [], .l .o 1 []]) [(0, 1, .k 12), (1, 1, .k 14), (2, 1, .k 16)], [], 0⟩,
    ⟨some 3, none, .al ([.i .i64 0, .i .i64 0, .i .u64 0, .l .o 1 [], .l .o 1 []]), [], 0⟩,
    ⟨none, none, .st 5 (.t 3) (.k 17), [], 0⟩] false [1, 2, 3] [1, 2, 3])
  (.seq (.seq (.reg [] [⟨some 18, none, .fa 3 (.t 1), [], 0⟩,
    ⟨some 19, none, .ld false 1 .cp (.k 18), [], 0⟩,
    ⟨some 20, none, .len false (.t 19), [], 0⟩,
    ⟨some 21, none, .mv (.c (.i .i64 0)), [], 0⟩] false [1, 2, 3, 19, 20, 21] [1, 2, 3])
  (.blk 0 (.loop (.seq (.reg [] [⟨some 22, none, .bin .lss (.t 21) (.t 20), [], 0⟩] false [1, 2, 3, 19, 20, 21, 22] [1, 2, 3])
  (.seq (.cond 22 .skip
  (.exit 0))
  (.seq (.blk 1 (.seq (.reg [] [⟨some 23, none, .ia 1 none (.t 19) (.t 21), [], 0⟩,
    ⟨some 24, none, .ld false 1 .cp (.k 23), [], 0⟩,
    ⟨some 5, none, .mv (.k 24), [], 0⟩] false [1, 2, 3, 5, 19, 20, 21] [1, 2, 3])
  (.seq (.reg [] [⟨some 25, none, .bs 2 0 (.a ([.i .u64 0, .i .i64 0])) [], [], 1⟩,
    ⟨some 6, none, .mv (.k 25), [], 0⟩] false [1, 2, 3, 5, 6, 19, 20, 21] [1, 2, 3])
  (.seq (.seq (.reg [] [⟨some 26, none, .mv (.k 5), [], 0⟩,
    ⟨some 27, none, .len false (.t 26), [], 0⟩,
    ⟨some 28, none, .mv (.c (.i .i64 0)), [], 0⟩] false [1, 2, 3, 6, 19, 20, 21, 26, 27, 28] [1, 2, 3])
  (.blk 2 (.loop (.seq (.reg [] [⟨some 29, none, .bin .lss (.t 28) (.t 27), [], 0⟩] false [1, 2, 3, 6, 19, 20, 21, 26, 27, 28, 29] [1, 2, 3])
  (.seq (.cond 29 .skip
  (.exit 2))
  (.seq (.blk 3 (.seq (.reg [] [⟨some 30, none, .ia 2 none (.t 26) (.t 28), [], 0⟩,
    ⟨some 31, none, .ld true 2 .cp (.k 30), [], 0⟩,
    ⟨some 8, none, .al ([.f .f64 0, .i .i64 0]), [], 0⟩,
    ⟨none, none, .st 2 (.t 8) (.k 31), [], 0⟩] false [1, 2, 3, 6, 8, 19, 20, 21, 26, 27, 28] [1, 2, 3, 8])
  (.reg [] [⟨some 32, none, .mv (.k 6), [], 0⟩,
    ⟨some 33, none, .ld true 2 .cp (.t 8), [0], 0⟩,
    ⟨some 34, none, .call n_c_law04_Bits [.k 33], [0], 0⟩,
    ⟨some 35, none, .fa 1 (.t 8), [0, 1, 2], 0⟩,
    ⟨some 36, none, .ld false 1 .cp (.k 35), [0, 1, 2], 0⟩,
    ⟨some 37, none, .bd ([.i .u64 0, .i .i64 0]) [(0, 1, .k 34), (1, 1, .k 36)], [0], 0⟩,
    ⟨some 38, none, .bs 2 1 (.a ([.i .u64 0, .i .i64 0])) [(0, .k 37)], [0], 0⟩,
    ⟨some 39, none, .app 2 16 (.k 32) (.k 38), [], 1⟩,
    ⟨some 6, none, .mv (.k 39), [], 0⟩] true [1, 2, 3, 6, 19, 20, 21, 26, 27, 28] [1, 2, 3])))
  (.reg [] [⟨some 40, none, .bin .add (.k 28) (.c (.i .i64 1)), [], 0⟩,
    ⟨some 28, none, .mv (.k 40), [], 0⟩] false [1, 2, 3, 6, 19, 20, 21, 26, 27, 28] [1, 2, 3])))))))
  (.reg [] [⟨some 41, none, .fa 3 (.t 3), [], 0⟩,
    ⟨some 42, none, .ld false 1 .tk (.k 41), [], 0⟩,
    ⟨some 43, none, .mv (.k 6), [], 0⟩,
    ⟨some 44, none, .bs 1 1 (.l .o 2 []) [(0, .k 43)], [], 0⟩,
    ⟨some 45, none, .app 1 24 (.k 42) (.k 44), [], 1⟩,
    ⟨some 46, none, .fa 3 (.t 3), [], 0⟩,
    ⟨none, none, .st 1 (.k 46) (.k 45), [], 0⟩] false [1, 2, 3, 19, 20, 21] [1, 2, 3])))))
  (.reg [] [⟨some 47, none, .bin .add (.k 21) (.c (.i .i64 1)), [], 0⟩,
    ⟨some 21, none, .mv (.k 47), [], 0⟩] false [1, 2, 3, 19, 20, 21] [1, 2, 3])))))))
  (.seq (.seq (.reg [] [⟨some 48, none, .fa 4 (.k 1), [], 0⟩,
    ⟨some 49, none, .ld false 1 .tk (.k 48), [], 0⟩,
    ⟨some 50, none, .len false (.t 49), [], 0⟩,
    ⟨some 51, none, .mv (.c (.i .i64 0)), [], 0⟩] false [2, 3, 49, 50, 51] [2, 3])
  (.blk 4 (.loop (.seq (.reg [] [⟨some 52, none, .bin .lss (.t 51) (.t 50), [], 0⟩] false [2, 3, 49, 50, 51, 52] [2, 3])
  (.seq (.cond 52 .skip
  (.exit 4))
  (.seq (.blk 5 (.seq (.reg [] [⟨some 53, none, .ia 1 none (.t 49) (.t 51), [], 0⟩,
    ⟨some 54, none, .ld false 1 .cp (.k 53), [], 0⟩,
    ⟨some 10, none, .mv (.k 54), [], 0⟩] false [2, 3, 10, 49, 50, 51] [2, 3])
  (.reg [] [⟨some 55, none, .fa 4 (.t 3), [], 0⟩,
    ⟨some 56, none, .ld false 1 .tk (.k 55), [], 0⟩,
    ⟨some 57, none, .mv (.k 10), [], 0⟩,
    ⟨some 58, none, .bs 1 1 (.i .i64 0) [(0, .k 57)], [], 0⟩,
    ⟨some 59, none, .app 1 8 (.k 56) (.k 58), [], 1⟩,
    ⟨some 60, none, .fa 4 (.t 3), [], 0⟩,
    ⟨none, none, .st 1 (.k 60) (.k 59), [], 0⟩] false [2, 3, 49, 50, 51] [2, 3])))
  (.reg [] [⟨some 61, none, .bin .add (.k 51) (.c (.i .i64 1)), [], 0⟩,
    ⟨some 51, none, .mv (.k 61), [], 0⟩] false [2, 3, 49, 50, 51] [2, 3])))))))
  (.seq (.reg [] [⟨some 62, none, .ld true 5 .tk (.k 3), [], 0⟩,
    ⟨none, none, .st 5 (.t 2) (.k 62), [], 0⟩] false [2] [2])
  .ret)))))⟩

def F_c_law06_Run_Same : F := ⟨1, [.inl 2],
  (.seq (.reg [.zz 0] [⟨some 1, none, .bx (.k 0), [], 0⟩,
    ⟨some 2, none, .mv (.c (.i .i64 0)), [], 0⟩] false [1] [1])
  (.seq (.seq (.reg [] [⟨some 7, none, .fa 0 (.t 1), [], 0⟩,
    ⟨some 8, none, .ld false 1 .cp (.k 7), [], 0⟩,
    ⟨some 9, none, .call n_cell_Memory_Clock [.k 8], [], 0⟩,
    ⟨some 10, none, .fa 1 (.t 1), [0, 1, 2], 0⟩,
    ⟨some 11, none, .fa 0 (.k 10), [0, 1, 2], 0⟩,
    ⟨some 12, none, .ld false 1 .cp (.k 11), [0, 1, 2], 0⟩,
    ⟨some 13, none, .len false (.k 12), [0, 1, 2], 0⟩,
    ⟨some 14, none, .cv (.int .u64) (.k 13), [0, 1, 2], 0⟩,
    ⟨some 15, none, .bin .neq (.k 9) (.k 14), [], 0⟩,
    ⟨some 16, none, .mv (.k 15), [], 0⟩,
    ⟨some 17, some (16, false), .fa 0 (.t 1), [], 0⟩,
    ⟨some 18, some (16, false), .ld false 1 .cp (.k 17), [], 0⟩,
    ⟨some 19, some (16, false), .call n_cell_Memory_Len [.k 18], [], 0⟩,
    ⟨some 20, some (16, false), .fa 1 (.t 1), [10, 11, 12], 0⟩,
    ⟨some 21, some (16, false), .ld true 1 .cp (.k 20), [10, 11, 12], 2⟩,
    ⟨some 22, some (16, false), .call n_c_ref05_Len [.k 21], [], 0⟩,
    ⟨some 23, some (16, false), .bin .neq (.k 19) (.k 22), [], 0⟩,
    ⟨some 24, none, .pick (.t 16) (.c (.b true)) (.k 23), [], 0⟩] true [1, 24] [1])
  (.cond 24 (.seq (.reg [] [⟨some 2, none, .mv (.c (.i .i64 (-1))), [], 0⟩] false [2] [])
  .ret)
  .skip))
  (.seq (.seq (.reg [] [⟨some 3, none, .mv (.c (.i .i64 0)), [], 0⟩] false [1, 3] [1])
  (.blk 0 (.loop (.seq (.seq (.reg [] [⟨some 25, none, .mv (.t 3), [], 0⟩,
    ⟨some 26, none, .fa 0 (.t 1), [], 0⟩,
    ⟨some 27, none, .ld false 1 .cp (.k 26), [], 0⟩,
    ⟨some 28, none, .call n_cell_Memory_Len [.k 27], [], 0⟩,
    ⟨some 29, none, .bin .lss (.k 25) (.k 28), [], 0⟩] false [1, 3, 29] [1])
  (.cond 29 .skip
  (.exit 0)))
  (.seq (.blk 1 (.seq (.reg [] [⟨some 33, none, .fa 1 (.t 1), [], 0⟩,
    ⟨some 34, none, .ld true 1 .cp (.k 33), [], 2⟩,
    ⟨some 35, none, .mv (.t 3), [], 0⟩,
    ⟨some 36, none, .call n_c_ref05_Read [.k 34, .k 35], [], 0⟩,
    ⟨some 32, none, .mv (.k 36), [], 0⟩,
    ⟨some 37, none, .ex false 0 32, [], 0⟩,
    ⟨some 38, none, .ex false 1 32, [], 0⟩,
    ⟨some 5, none, .al ([.i .i64 0, .l .o 2 []]), [], 0⟩,
    ⟨some 4, none, .mv (.k 37), [], 0⟩,
    ⟨none, none, .st 2 (.t 5) (.k 38), [], 0⟩] false [1, 3, 4, 5] [1, 5])
  (.seq (.reg [] [⟨some 39, none, .fa 0 (.t 1), [], 0⟩,
    ⟨some 40, none, .ld false 1 .cp (.k 39), [], 0⟩,
    ⟨some 41, none, .mv (.t 3), [], 0⟩,
    ⟨some 42, none, .call n_cell_Memory_Read [.k 40, .k 41], [], 0⟩,
    ⟨some 6, none, .al ([.i .u64 0, .i .i64 0, .l .o 2 []]), [], 0⟩,
    ⟨none, none, .st 3 (.t 6) (.k 42), [], 0⟩] false [1, 3, 4, 5, 6] [1, 5, 6])
  (.seq (.reg [] [⟨some 43, none, .fa 0 (.t 6), [], 0⟩,
    ⟨some 44, none, .ld false 1 .cp (.k 43), [], 0⟩,
    ⟨some 45, none, .mv (.k 4), [], 0⟩,
    ⟨some 46, none, .cv (.int .u64) (.k 45), [], 0⟩,
    ⟨some 47, none, .bin .neq (.k 44) (.k 46), [], 0⟩,
    ⟨some 48, none, .mv (.k 47), [], 0⟩,
    ⟨some 49, some (48, false), .fa 1 (.k 6), [], 0⟩,
    ⟨some 50, some (48, false), .ld true 2 .tk (.k 49), [], 2⟩,
    ⟨some 51, some (48, false), .ld true 2 .tk (.k 5), [], 2⟩,
    ⟨some 52, some (48, false), .call n_c_law05_Is [.k 50, .k 51], [], 0⟩,
    ⟨some 53, some (48, false), .bin .neq (.k 52) (.c (.i .i64 0)), [], 0⟩,
    ⟨some 54, none, .pick (.k 48) (.c (.b true)) (.k 53), [], 0⟩] false [1, 3, 54] [1])
  (.cond 54 (.seq (.reg [] [⟨some 2, none, .mv (.c (.i .i64 (-1))), [], 0⟩] false [2] [])
  .ret)
  .skip)))))
  (.reg [] [⟨some 30, none, .mv (.k 3), [], 0⟩,
    ⟨some 31, none, .bin .add (.k 30) (.c (.i .i64 1)), [], 0⟩,
    ⟨some 3, none, .mv (.k 31), [], 0⟩] false [1, 3] [1]))))))
  (.seq (.reg [] [⟨some 2, none, .mv (.c (.i .i64 0)), [], 0⟩] false [2] [])
  .ret))))⟩

def F_spread_To : F := ⟨2, [.inr (4, true, 5), .inl 5],
  (.seq (.reg [.zz 0] [⟨some 2, none, .bx (.k 0), [], 0⟩,
    ⟨some 4, none, .al ([.i .i64 0, .i .i64 0, .i .u64 0, .l .o 1 [], .l .o 1 []]), [], 0⟩,
    ⟨some 5, none, .mv (.c (.i .i64 0)), [], 0⟩] false [1, 2, 4] [2, 4])
  (.seq (.seq (.reg [] [⟨some 10, none, .ld true 5 .cp (.t 2), [], 2⟩,
    ⟨some 11, none, .call n_image_Image_Check [.k 10], [], 0⟩,
    ⟨some 6, none, .mv (.k 11), [], 0⟩] false [1, 2, 4, 6] [2, 4])
  (.seq (.reg [] [⟨some 12, none, .mv (.t 6), [], 0⟩,
    ⟨some 13, none, .bin .neq (.k 12) (.c (.i .i64 0)), [], 0⟩] false [1, 2, 4, 6, 13] [2, 4])
  (.cond 13 (.seq (.reg [] [⟨some 14, none, .bd ([.i .i64 0, .i .i64 0, .i .u64 0, .l .o 1 [], .l .o 1 []]) [], [], 0⟩,
    ⟨some 15, none, .mv (.k 6), [], 0⟩,
    ⟨none, none, .st 5 (.t 4) (.k 14), [], 0⟩,
    ⟨some 5, none, .mv (.k 15), [], 0⟩] false [4, 5] [4])
  .ret)
  .skip)))
  (.seq (.seq (.reg [] [⟨some 16, none, .fa 0 (.t 2), [], 0⟩,
    ⟨some 17, none, .ld false 1 .cp (.k 16), [], 0⟩,
    ⟨some 18, none, .mv (.t 1), [], 0⟩,
    ⟨some 19, none, .call n_op_Legal [.k 17, .k 18], [], 0⟩,
    ⟨some 7, none, .mv (.k 19), [], 0⟩] false [1, 2, 4, 7] [2, 4])
  (.seq (.reg [] [⟨some 20, none, .mv (.t 7), [], 0⟩,
    ⟨some 21, none, .bin .neq (.k 20) (.c (.i .i64 0)), [], 0⟩] false [1, 2, 4, 7, 21] [2, 4])
  (.cond 21 (.seq (.reg [] [⟨some 22, none, .bd ([.i .i64 0, .i .i64 0, .i .u64 0, .l .o 1 [], .l .o 1 []]) [], [], 0⟩,
    ⟨some 23, none, .mv (.k 7), [], 0⟩,
    ⟨none, none, .st 5 (.t 4) (.k 22), [], 0⟩,
    ⟨some 5, none, .mv (.k 23), [], 0⟩] false [4, 5] [4])
  .ret)
  .skip)))
  (.seq (.reg [] [⟨some 24, none, .ld true 5 .cp (.t 2), [], 0⟩,
    ⟨some 8, none, .al ([.i .i64 0, .i .i64 0, .i .u64 0, .l .o 1 [], .l .o 1 []]), [], 0⟩,
    ⟨none, none, .st 5 (.t 8) (.k 24), [], 0⟩] false [1, 2, 4, 8] [2, 4, 8])
  (.seq (.reg [] [⟨some 25, none, .ld true 5 .cp (.t 2), [], 2⟩,
    ⟨some 26, none, .call n_image_Image_Value [.k 25], [], 0⟩,
    ⟨some 9, none, .al ([.i .i64 0, .l .o 2 [], .i .i64 0]), [], 0⟩,
    ⟨none, none, .st 3 (.t 9) (.k 26), [], 0⟩] false [1, 2, 4, 8, 9] [2, 4, 8, 9])
  (.seq (.reg [] [⟨some 27, none, .mv (.t 1), [], 0⟩,
    ⟨some 28, none, .fa 1 (.t 8), [], 0⟩,
    ⟨none, none, .st 1 (.k 28) (.k 27), [], 0⟩] false [1, 2, 4, 8, 9] [2, 4, 8, 9])
  (.seq (.blk 0 (.seq (.reg [] [⟨some 30, none, .mv (.t 1), [], 0⟩,
    ⟨some 31, none, .fa 1 (.t 2), [], 0⟩,
    ⟨some 32, none, .ld false 1 .cp (.k 31), [], 0⟩,
    ⟨some 33, none, .bin .eql (.k 30) (.k 32), [], 0⟩,
    ⟨some 29, none, .mv (.k 33), [], 0⟩] false [1, 2, 4, 8, 9, 29] [2, 4, 8, 9])
  (.cond 29 .skip
  (.seq (.seq (.reg [] [⟨some 35, none, .fa 0 (.t 2), [], 0⟩,
    ⟨some 36, none, .ld false 1 .cp (.k 35), [], 0⟩,
    ⟨some 37, none, .bin .eql (.k 36) (.c (.i .i64 1)), [], 0⟩,
    ⟨some 38, none, .mv (.k 37), [], 0⟩,
    ⟨some 39, some (38, true), .fa 1 (.t 9), [], 0⟩,
    ⟨some 40, some (38, true), .ld false 1 .cp (.k 39), [], 0⟩,
    ⟨some 41, some (38, true), .len false (.k 40), [], 0⟩,
    ⟨some 42, some (38, true), .mv (.t 1), [], 0⟩,
    ⟨some 43, some (38, true), .bin .mul (.k 42) (.c (.i .i64 62)), [], 0⟩,
    ⟨some 44, some (38, true), .bin .gtr (.k 41) (.k 43), [], 0⟩,
    ⟨some 45, none, .pick (.k 38) (.k 44) (.c (.b false)), [], 0⟩,
    ⟨some 34, none, .mv (.k 45), [], 0⟩] false [1, 2, 4, 8, 9, 34] [2, 4, 8, 9])
  (.cond 34 .skip
  (.reg [] [⟨some 46, none, .fa 0 (.t 2), [], 0⟩,
    ⟨some 47, none, .ld false 1 .cp (.k 46), [], 0⟩,
    ⟨some 48, none, .bin .eql (.k 47) (.c (.i .i64 2)), [], 0⟩,
    ⟨some 49, none, .mv (.k 48), [], 0⟩,
    ⟨some 50, some (49, true), .fa 1 (.t 9), [], 0⟩,
    ⟨some 51, some (49, true), .ld false 1 .cp (.k 50), [], 0⟩,
    ⟨some 52, some (49, true), .len false (.k 51), [], 0⟩,
    ⟨some 53, some (49, true), .mv (.t 1), [4, 5, 6], 0⟩,
    ⟨some 54, some (49, true), .call n_image_Room [.k 53], [4, 5, 6], 0⟩,
    ⟨some 55, some (49, true), .bin .gtr (.k 52) (.k 54), [], 0⟩,
    ⟨some 56, none, .pick (.t 49) (.k 55) (.c (.b false)), [], 0⟩,
    ⟨some 34, none, .mv (.k 56), [], 0⟩] true [1, 2, 4, 8, 9, 34] [2, 4, 8, 9])))
  (.cond 34 (.seq (.reg [] [⟨some 57, none, .bd ([.i .i64 0, .i .i64 0, .i .u64 0, .l .o 1 [], .l .o 1 []]) [], [], 0⟩,
    ⟨none, none, .st 5 (.t 4) (.k 57), [], 0⟩,
    ⟨some 5, none, .mv (.c (.i .i64 3)), [], 0⟩] false [4, 5] [4])
  .ret)
  (.seq (.reg [] [⟨some 59, none, .fa 0 (.t 2), [], 0⟩,
    ⟨some 60, none, .ld false 1 .cp (.k 59), [], 0⟩,
    ⟨some 61, none, .bin .eql (.k 60) (.c (.i .i64 1)), [], 0⟩,
    ⟨some 58, none, .mv (.k 61), [], 0⟩] false [1, 2, 4, 8, 9, 58] [2, 4, 8, 9])
  (.cond 58 (.reg [] [⟨some 62, none, .fa 1 (.k 9), [], 0⟩,
    ⟨some 63, none, .ld false 1 .tk (.k 62), [], 2⟩,
    ⟨some 64, none, .mv (.k 1), [], 0⟩,
    ⟨some 65, none, .call n_spread_Deal [.k 63, .k 64], [], 1⟩,
    ⟨some 66, none, .fa 3 (.t 8), [], 0⟩,
    ⟨none, none, .st 1 (.k 66) (.k 65), [], 0⟩] false [4, 8] [4, 8])
  (.seq (.reg [] [⟨some 68, none, .fa 0 (.k 2), [], 0⟩,
    ⟨some 69, none, .ld false 1 .cp (.k 68), [], 0⟩,
    ⟨some 70, none, .bin .eql (.k 69) (.c (.i .i64 3)), [], 0⟩,
    ⟨some 67, none, .mv (.k 70), [], 0⟩] false [1, 4, 8, 9, 67] [4, 8, 9])
  (.cond 67 (.reg [] [⟨some 71, none, .fa 2 (.k 9), [], 0⟩,
    ⟨some 72, none, .ld false 1 .cp (.k 71), [], 0⟩,
    ⟨some 73, none, .mv (.k 1), [], 0⟩,
    ⟨some 74, none, .call n_wire_Even [.k 72, .k 73], [], 1⟩,
    ⟨some 75, none, .fa 4 (.t 8), [], 0⟩,
    ⟨none, none, .st 1 (.k 75) (.k 74), [], 0⟩] false [4, 8] [4, 8])
  .skip)))))))))
  (.seq (.reg [] [⟨some 76, none, .ld true 5 .tk (.k 8), [], 0⟩,
    ⟨none, none, .st 5 (.t 4) (.k 76), [], 0⟩,
    ⟨some 5, none, .mv (.c (.i .i64 0)), [], 0⟩] false [4, 5] [4])
  .ret))))))))⟩

def F_image_Image_Check : F := ⟨1, [.inl 2],
  (.seq (.reg [.zz 0] [⟨some 1, none, .bx (.k 0), [], 0⟩,
    ⟨some 2, none, .mv (.c (.i .i64 0)), [], 0⟩] false [1] [1])
  (.seq (.seq (.reg [] [⟨some 13, none, .fa 0 (.t 1), [], 0⟩,
    ⟨some 14, none, .ld false 1 .cp (.k 13), [], 0⟩,
    ⟨some 15, none, .fa 1 (.t 1), [], 0⟩,
    ⟨some 16, none, .ld false 1 .cp (.k 15), [], 0⟩,
    ⟨some 17, none, .call n_op_Legal [.k 14, .k 16], [], 0⟩,
    ⟨some 3, none, .mv (.k 17), [], 0⟩] false [1, 3] [1])
  (.seq (.reg [] [⟨some 18, none, .mv (.t 3), [], 0⟩,
    ⟨some 19, none, .bin .neq (.k 18) (.c (.i .i64 0)), [], 0⟩] false [1, 3, 19] [1])
  (.cond 19 (.seq (.reg [] [⟨some 20, none, .mv (.k 3), [], 0⟩,
    ⟨some 2, none, .mv (.k 20), [], 0⟩] false [2] [])
  .ret)
  .skip)))
  (.seq (.reg [] [⟨some 22, none, .fa 0 (.t 1), [], 0⟩,
    ⟨some 23, none, .ld false 1 .cp (.k 22), [], 0⟩,
    ⟨some 24, none, .fa 1 (.t 1), [], 0⟩,
    ⟨some 25, none, .ld false 1 .cp (.k 24), [], 0⟩,
    ⟨some 26, none, .call n_image_Shape [.k 23, .k 25], [], 0⟩,
    ⟨some 21, none, .mv (.k 26), [], 0⟩,
    ⟨some 27, none, .ex false 0 21, [], 0⟩,
    ⟨some 28, none, .ex false 1 21, [], 0⟩,
    ⟨some 4, none, .mv (.k 27), [], 0⟩,
    ⟨some 5, none, .mv (.k 28), [], 0⟩] false [1, 4, 5] [1])
  (.seq (.seq (.reg [] [⟨some 29, none, .fa 3 (.t 1), [], 0⟩,
    ⟨some 30, none, .ld false 1 .cp (.k 29), [], 0⟩,
    ⟨some 31, none, .len false (.k 30), [], 0⟩,
    ⟨some 32, none, .mv (.k 4), [], 0⟩,
    ⟨some 33, none, .bin .neq (.k 31) (.k 32), [], 0⟩,
    ⟨some 34, none, .mv (.k 33), [], 0⟩,
    ⟨some 35, some (34, false), .fa 4 (.t 1), [], 0⟩,
    ⟨some 36, some (34, false), .ld false 1 .cp (.k 35), [], 0⟩,
    ⟨some 37, some (34, false), .len false (.k 36), [], 0⟩,
    ⟨some 38, some (34, false), .mv (.k 5), [], 0⟩,
    ⟨some 39, some (34, false), .bin .neq (.k 37) (.k 38), [], 0⟩,
    ⟨some 40, none, .pick (.k 34) (.c (.b true)) (.k 39), [], 0⟩] false [1, 40] [1])
  (.cond 40 (.seq (.reg [] [⟨some 2, none, .mv (.c (.i .i64 2)), [], 0⟩] false [2] [])
  .ret)
  .skip))
  (.seq (.reg [] [⟨some 6, none, .mv (.c (.i .i64 0)), [], 0⟩] false [1, 6] [1])
  (.seq (.seq (.reg [] [⟨some 41, none, .fa 3 (.t 1), [], 0⟩,
    ⟨some 42, none, .ld false 1 .cp (.k 41), [], 0⟩,
    ⟨some 43, none, .len false (.t 42), [], 0⟩,
    ⟨some 44, none, .mv (.c (.i .i64 0)), [], 0⟩] false [1, 6, 42, 43, 44] [1])
  (.blk 0 (.loop (.seq (.reg [] [⟨some 45, none, .bin .lss (.t 44) (.t 43), [], 0⟩] false [1, 6, 42, 43, 44, 45] [1])
  (.seq (.cond 45 .skip
  (.exit 0))
  (.seq (.blk 1 (.seq (.reg [] [⟨some 46, none, .ia 1 none (.t 42) (.t 44), [], 0⟩,
    ⟨some 47, none, .ld false 1 .cp (.k 46), [], 0⟩,
    ⟨some 8, none, .mv (.k 47), [], 0⟩] false [1, 6, 8, 42, 43, 44] [1])
  (.seq (.seq (.reg [] [⟨some 48, none, .fa 0 (.t 1), [], 0⟩,
    ⟨some 49, none, .ld false 1 .cp (.k 48), [], 0⟩,
    ⟨some 50, none, .mv (.t 8), [], 2⟩,
    ⟨some 51, none, .call n_image_order [.k 49, .k 50], [], 0⟩,
    ⟨some 9, none, .mv (.k 51), [], 0⟩] false [1, 6, 8, 9, 42, 43, 44] [1])
  (.seq (.reg [] [⟨some 52, none, .mv (.t 9), [], 0⟩,
    ⟨some 53, none, .bin .neq (.k 52) (.c (.i .i64 0)), [], 0⟩] false [1, 6, 8, 9, 42, 43, 44, 53] [1])
  (.cond 53 (.seq (.reg [] [⟨some 54, none, .mv (.k 9), [], 0⟩,
    ⟨some 2, none, .mv (.k 54), [], 0⟩] false [2] [])
  .ret)
  .skip)))
  (.reg [] [⟨some 55, none, .mv (.k 6), [], 0⟩,
    ⟨some 56, none, .mv (.k 8), [], 0⟩,
    ⟨some 57, none, .len false (.k 56), [], 0⟩,
    ⟨some 58, none, .bin .add (.k 55) (.k 57), [], 0⟩,
    ⟨some 6, none, .mv (.k 58), [], 0⟩] false [1, 6, 42, 43, 44] [1]))))
  (.reg [] [⟨some 59, none, .bin .add (.k 44) (.c (.i .i64 1)), [], 0⟩,
    ⟨some 44, none, .mv (.k 59), [], 0⟩] false [1, 6, 42, 43, 44] [1])))))))
  (.seq (.seq (.reg [] [⟨some 60, none, .mv (.k 6), [], 0⟩,
    ⟨some 61, none, .bin .gtr (.k 60) (.c (.i .i64 1000)), [], 0⟩] false [1, 61] [1])
  (.cond 61 (.seq (.reg [] [⟨some 2, none, .mv (.c (.i .i64 3)), [], 0⟩] false [2] [])
  .ret)
  .skip))
  (.seq (.reg [] [⟨some 10, none, .mv (.c (.i .i64 0)), [], 0⟩] false [1, 10] [1])
  (.seq (.seq (.reg [] [⟨some 62, none, .fa 4 (.k 1), [], 0⟩,
    ⟨some 63, none, .ld false 1 .tk (.k 62), [], 0⟩,
    ⟨some 64, none, .len false (.t 63), [], 0⟩,
    ⟨some 65, none, .mv (.c (.i .i64 0)), [], 0⟩] false [10, 63, 64, 65] [])
  (.blk 2 (.loop (.seq (.reg [] [⟨some 66, none, .bin .lss (.t 65) (.t 64), [], 0⟩] false [10, 63, 64, 65, 66] [])
  (.seq (.cond 66 .skip
  (.exit 2))
  (.seq (.blk 3 (.seq (.reg [] [⟨some 67, none, .ia 1 none (.t 63) (.t 65), [], 0⟩,
    ⟨some 68, none, .ld false 1 .cp (.k 67), [], 0⟩,
    ⟨some 12, none, .mv (.k 68), [], 0⟩] false [10, 12, 63, 64, 65] [])
  (.seq (.seq (.reg [] [⟨some 69, none, .mv (.t 12), [], 0⟩,
    ⟨some 70, none, .bin .lss (.k 69) (.c (.i .i64 0)), [], 0⟩,
    ⟨some 71, none, .mv (.k 70), [], 0⟩,
    ⟨some 72, some (71, false), .mv (.t 12), [], 0⟩,
    ⟨some 73, some (71, false), .bin .gtr (.k 72) (.c (.i .i64 1125899906842624)), [], 0⟩,
    ⟨some 74, none, .pick (.k 71) (.c (.b true)) (.k 73), [], 0⟩] false [10, 12, 63, 64, 65, 74] [])
  (.cond 74 (.seq (.reg [] [⟨some 2, none, .mv (.c (.i .i64 4)), [], 0⟩] false [2] [])
  .ret)
  .skip))
  (.reg [] [⟨some 75, none, .mv (.k 10), [], 0⟩,
    ⟨some 76, none, .mv (.k 12), [], 0⟩,
    ⟨some 77, none, .bin .add (.k 75) (.k 76), [], 0⟩,
    ⟨some 10, none, .mv (.k 77), [], 0⟩] false [10, 63, 64, 65] []))))
  (.reg [] [⟨some 78, none, .bin .add (.k 65) (.c (.i .i64 1)), [], 0⟩,
    ⟨some 65, none, .mv (.k 78), [], 0⟩] false [10, 63, 64, 65] [])))))))
  (.seq (.seq (.reg [] [⟨some 79, none, .mv (.k 10), [], 0⟩,
    ⟨some 80, none, .bin .gtr (.k 79) (.c (.i .i64 1125899906842624)), [], 0⟩] false [80] [])
  (.cond 80 (.seq (.reg [] [⟨some 2, none, .mv (.c (.i .i64 4)), [], 0⟩] false [2] [])
  .ret)
  .skip))
  (.seq (.reg [] [⟨some 2, none, .mv (.c (.i .i64 0)), [], 0⟩] false [2] [])
  .ret)))))))))))⟩

def F_image_Image_Value : F := ⟨1, [.inr (2, true, 3)],
  (.seq (.reg [.zz 0] [⟨some 1, none, .bx (.k 0), [], 0⟩,
    ⟨some 2, none, .al ([.i .i64 0, .l .o 2 [], .i .i64 0]), [], 0⟩] false [1, 2] [1, 2])
  (.seq (.reg [] [⟨some 8, none, .fa 0 (.t 1), [], 0⟩,
    ⟨some 9, none, .ld false 1 .cp (.k 8), [], 0⟩,
    ⟨some 10, none, .bd ([.i .i64 0, .l .o 2 [], .i .i64 0]) [(0, 1, .k 9)], [], 0⟩,
    ⟨some 3, none, .al ([.i .i64 0, .l .o 2 [], .i .i64 0]), [], 0⟩,
    ⟨none, none, .st 3 (.t 3) (.k 10), [], 0⟩] false [1, 2, 3] [1, 2, 3])
  (.seq (.seq (.reg [] [⟨some 11, none, .fa 3 (.t 1), [], 0⟩,
    ⟨some 12, none, .ld false 1 .cp (.k 11), [], 0⟩,
    ⟨some 13, none, .len false (.t 12), [], 0⟩,
    ⟨some 14, none, .mv (.c (.i .i64 0)), [], 0⟩] false [1, 2, 3, 12, 13, 14] [1, 2, 3])
  (.blk 0 (.loop (.seq (.reg [] [⟨some 15, none, .bin .lss (.t 14) (.t 13), [], 0⟩] false [1, 2, 3, 12, 13, 14, 15] [1, 2, 3])
  (.seq (.cond 15 .skip
  (.exit 0))
  (.seq (.blk 1 (.seq (.reg [] [⟨some 16, none, .ia 1 none (.t 12) (.t 14), [], 0⟩,
    ⟨some 17, none, .ld false 1 .cp (.k 16), [], 0⟩,
    ⟨some 5, none, .mv (.k 17), [], 0⟩] false [1, 2, 3, 5, 12, 13, 14] [1, 2, 3])
  (.reg [] [⟨some 18, none, .fa 1 (.t 3), [], 0⟩,
    ⟨some 19, none, .ld false 1 .tk (.k 18), [], 0⟩,
    ⟨some 20, none, .mv (.k 5), [], 0⟩,
    ⟨some 21, none, .app 2 16 (.k 19) (.k 20), [], 1⟩,
    ⟨some 22, none, .fa 1 (.t 3), [], 0⟩,
    ⟨none, none, .st 1 (.k 22) (.k 21), [], 0⟩] false [1, 2, 3, 12, 13, 14] [1, 2, 3])))
  (.reg [] [⟨some 23, none, .bin .add (.k 14) (.c (.i .i64 1)), [], 0⟩,
    ⟨some 14, none, .mv (.k 23), [], 0⟩] false [1, 2, 3, 12, 13, 14] [1, 2, 3])))))))
  (.seq (.seq (.reg [] [⟨some 24, none, .fa 0 (.t 1), [], 0⟩,
    ⟨some 25, none, .ld false 1 .cp (.k 24), [], 0⟩,
    ⟨some 26, none, .bin .eql (.k 25) (.c (.i .i64 1)), [], 0⟩] false [1, 2, 3, 26] [1, 2, 3])
  (.cond 26 (.reg [] [⟨some 27, none, .fa 1 (.t 3), [], 0⟩,
    ⟨some 28, none, .ld false 1 .cp (.k 27), [], 2⟩,
    ⟨some 29, none, .call n_pile_Sorted [.k 28], [], 0⟩,
    ⟨some 30, none, .fa 1 (.t 3), [], 0⟩,
    ⟨none, none, .st 1 (.k 30) (.k 29), [], 0⟩] false [1, 2, 3] [1, 2, 3])
  .skip))
  (.seq (.seq (.reg [] [⟨some 31, none, .fa 4 (.k 1), [], 0⟩,
    ⟨some 32, none, .ld false 1 .tk (.k 31), [], 0⟩,
    ⟨some 33, none, .len false (.t 32), [], 0⟩,
    ⟨some 34, none, .mv (.c (.i .i64 0)), [], 0⟩] false [2, 3, 32, 33, 34] [2, 3])
  (.blk 2 (.loop (.seq (.reg [] [⟨some 35, none, .bin .lss (.t 34) (.t 33), [], 0⟩] false [2, 3, 32, 33, 34, 35] [2, 3])
  (.seq (.cond 35 .skip
  (.exit 2))
  (.seq (.blk 3 (.seq (.reg [] [⟨some 36, none, .ia 1 none (.t 32) (.t 34), [], 0⟩,
    ⟨some 37, none, .ld false 1 .cp (.k 36), [], 0⟩,
    ⟨some 7, none, .mv (.k 37), [], 0⟩] false [2, 3, 7, 32, 33, 34] [2, 3])
  (.reg [] [⟨some 38, none, .fa 2 (.t 3), [], 0⟩,
    ⟨some 39, none, .ld false 1 .cp (.k 38), [], 0⟩,
    ⟨some 40, none, .mv (.k 7), [], 0⟩,
    ⟨some 41, none, .bin .add (.k 39) (.k 40), [], 0⟩,
    ⟨some 42, none, .fa 2 (.t 3), [], 0⟩,
    ⟨none, none, .st 1 (.k 42) (.k 41), [], 0⟩] false [2, 3, 32, 33, 34] [2, 3])))
  (.reg [] [⟨some 43, none, .bin .add (.k 34) (.c (.i .i64 1)), [], 0⟩,
    ⟨some 34, none, .mv (.k 43), [], 0⟩] false [2, 3, 32, 33, 34] [2, 3])))))))
  (.seq (.reg [] [⟨some 44, none, .ld true 3 .tk (.k 3), [], 0⟩,
    ⟨none, none, .st 3 (.t 2) (.k 44), [], 0⟩] false [2] [2])
  .ret))))))⟩

def F_spread_Engine : F := ⟨2, [.inl 4, .inl 5],
  (.seq (.reg [.zz 0] [⟨some 2, none, .bx (.k 0), [], 0⟩,
    ⟨some 4, none, .mv (.c (.nilp)), [], 0⟩,
    ⟨some 5, none, .mv (.c (.i .i64 0)), [], 0⟩] false [1, 2] [2])
  (.seq (.reg [] [⟨some 9, none, .ld true 5 .cp (.t 2), [], 2⟩,
    ⟨some 10, none, .mv (.k 1), [], 0⟩,
    ⟨some 11, none, .call n_spread_To [.k 9, .k 10], [], 0⟩,
    ⟨some 8, none, .mv (.k 11), [], 0⟩,
    ⟨some 12, none, .ex false 0 8, [], 0⟩,
    ⟨some 13, none, .ex false 1 8, [], 0⟩,
    ⟨none, none, .st 5 (.t 2) (.k 12), [], 0⟩,
    ⟨some 6, none, .mv (.k 13), [], 0⟩] false [2, 6] [2])
  (.seq (.seq (.reg [] [⟨some 14, none, .mv (.t 6), [], 0⟩,
    ⟨some 15, none, .bin .neq (.k 14) (.c (.i .i64 0)), [], 0⟩] false [2, 6, 15] [2])
  (.cond 15 (.seq (.reg [] [⟨some 16, none, .mv (.k 6), [], 0⟩,
    ⟨some 4, none, .mv (.c (.nilp)), [], 0⟩,
    ⟨some 5, none, .mv (.k 16), [], 0⟩] false [4, 5] [])
  .ret)
  .skip))
  (.seq (.reg [] [⟨some 18, none, .ld true 5 .cp (.t 2), [], 2⟩,
    ⟨some 19, none, .call n_spread_Lay [.k 18], [], 0⟩,
    ⟨some 17, none, .mv (.k 19), [], 0⟩,
    ⟨some 20, none, .ex false 0 17, [], 0⟩,
    ⟨some 21, none, .ex false 1 17, [], 0⟩,
    ⟨some 7, none, .mv (.k 20), [], 0⟩,
    ⟨some 6, none, .mv (.k 21), [], 0⟩] false [2, 6, 7] [2])
  (.seq (.seq (.reg [] [⟨some 22, none, .mv (.t 6), [], 0⟩,
    ⟨some 23, none, .bin .neq (.k 22) (.c (.i .i64 0)), [], 0⟩] false [2, 6, 7, 23] [2])
  (.cond 23 (.seq (.reg [] [⟨some 24, none, .mv (.k 6), [], 0⟩,
    ⟨some 4, none, .mv (.c (.nilp)), [], 0⟩,
    ⟨some 5, none, .mv (.k 24), [], 0⟩] false [4, 5] [])
  .ret)
  .skip))
  (.seq (.reg [] [⟨some 25, none, .fa 0 (.t 2), [], 0⟩,
    ⟨some 26, none, .ld false 1 .cp (.k 25), [], 0⟩,
    ⟨some 27, none, .fa 1 (.k 2), [], 0⟩,
    ⟨some 28, none, .ld false 1 .cp (.k 27), [], 0⟩,
    ⟨some 29, none, .mv (.k 7), [], 0⟩,
    ⟨some 30, none, .call n_engine_With [.k 26, .k 28, .k 29], [], 0⟩,
    ⟨some 31, none, .ex false 0 30, [], 0⟩,
    ⟨some 32, none, .ex false 1 30, [], 0⟩,
    ⟨some 4, none, .mv (.k 31), [], 0⟩,
    ⟨some 5, none, .mv (.k 32), [], 0⟩] false [4, 5] [])
  .ret))))))⟩

def F_c_law12_Kind : F := ⟨2, [.inl 4, .inl 5],
  (.seq (.reg [] [⟨some 4, none, .mv (.c (.i .i64 0)), [], 0⟩,
    ⟨some 5, none, .mv (.c (.i .i64 0)), [], 0⟩] false [0, 1] [])
  (.seq (.reg [] [⟨some 6, none, .mv (.k 0), [], 0⟩,
    ⟨some 7, none, .bin .and (.k 6) (.c (.i .i64 255)), [], 0⟩,
    ⟨some 8, none, .bin .rem (.k 7) (.c (.i .i64 4)), [], 0⟩,
    ⟨some 9, none, .bin .add (.c (.i .i64 1)) (.k 8), [], 0⟩,
    ⟨some 0, none, .mv (.k 9), [], 0⟩] false [0, 1] [])
  (.seq (.seq (.reg [] [⟨some 10, none, .mv (.t 0), [], 0⟩,
    ⟨some 11, none, .bin .eql (.k 10) (.c (.i .i64 4)), [], 0⟩] false [0, 1, 11] [])
  (.cond 11 (.seq (.reg [] [⟨some 12, none, .mv (.k 0), [], 0⟩,
    ⟨some 13, none, .mv (.k 1), [0], 0⟩,
    ⟨some 14, none, .bin .and (.k 13) (.c (.i .i64 255)), [0], 0⟩,
    ⟨some 15, none, .bin .rem (.k 14) (.c (.i .i64 5)), [0], 0⟩,
    ⟨some 16, none, .bin .shl (.c (.i .i64 1)) (.k 15), [0], 0⟩,
    ⟨some 4, none, .mv (.k 12), [1, 2, 3, 4], 0⟩,
    ⟨some 5, none, .mv (.k 16), [], 0⟩] true [4, 5] [])
  .ret)
  .skip))
  (.seq (.reg [] [⟨some 17, none, .mv (.k 0), [], 0⟩,
    ⟨some 18, none, .mv (.k 1), [], 0⟩,
    ⟨some 19, none, .bin .and (.k 18) (.c (.i .i64 255)), [], 0⟩,
    ⟨some 20, none, .bin .rem (.k 19) (.c (.i .i64 16)), [], 0⟩,
    ⟨some 21, none, .bin .add (.c (.i .i64 1)) (.k 20), [], 0⟩,
    ⟨some 4, none, .mv (.k 17), [], 0⟩,
    ⟨some 5, none, .mv (.k 21), [], 0⟩] false [4, 5] [])
  .ret))))⟩

def F_pile_Item_Canon : F := ⟨1, [.inr (2, true, 2)],
  (.seq (.reg [] [⟨some 1, none, .bx (.k 0), [], 0⟩,
    ⟨some 2, none, .al ([.f .f64 0, .i .i64 0]), [], 0⟩] false [1, 2] [1, 2])
  (.seq (.reg [] [⟨some 3, none, .fa 0 (.t 1), [], 0⟩,
    ⟨some 4, none, .ld false 1 .cp (.k 3), [], 0⟩,
    ⟨some 5, none, .call n_real_Canon [.k 4], [], 0⟩,
    ⟨some 6, none, .fa 1 (.t 1), [0, 1, 2], 0⟩,
    ⟨some 7, none, .ld false 1 .cp (.k 6), [0, 1, 2], 0⟩,
    ⟨some 8, none, .bd ([.f .f64 0, .i .i64 0]) [(0, 1, .k 5), (1, 1, .k 7)], [], 0⟩,
    ⟨none, none, .st 2 (.t 2) (.k 8), [], 0⟩] true [2] [2])
  .ret))⟩

def F_pile_Sorted : F := ⟨1, [.inl 2],
  (.seq (.reg [.zz 0] [⟨some 2, none, .mv (.c (.l .o 2 [])), [], 0⟩] false [0] [])
  (.seq (.reg [] [⟨some 3, none, .mv (.k 0), [], 2⟩,
    ⟨some 4, none, .call n_pile_New [.k 3], [], 0⟩,
    ⟨some 5, none, .call n_pile_Pile_All [.k 4], [], 0⟩,
    ⟨some 2, none, .mv (.k 5), [], 0⟩] false [2] [])
  .ret))⟩

def F_cell_New : F := ⟨0, [.inl 0],
  (.seq (.reg [] [⟨some 0, none, .mv (.c (.nilp)), [], 0⟩] false [] [])
  (.seq (.reg [] [⟨some 1, none, .bd ([.l .x 3 [], .i .u64 0]) [], [], 0⟩,
    ⟨some 2, none, .bg (.k 1), [], 0⟩,
    ⟨some 0, none, .mv (.k 2), [], 0⟩] false [0] [])
  .ret))⟩

def F_c_ref06_Legal : F := ⟨2, [.inl 4],
  (.seq (.reg [] [⟨some 4, none, .mv (.c (.i .i64 0)), [], 0⟩] false [0, 1] [])
  (.seq (.seq (.reg [] [⟨some 5, none, .mv (.t 0), [], 0⟩,
    ⟨some 6, none, .bin .lss (.k 5) (.c (.i .i64 1)), [], 0⟩,
    ⟨some 7, none, .mv (.k 6), [], 0⟩,
    ⟨some 8, some (7, false), .mv (.t 0), [], 0⟩,
    ⟨some 9, some (7, false), .bin .gtr (.k 8) (.c (.i .i64 4)), [], 0⟩,
    ⟨some 10, none, .pick (.k 7) (.c (.b true)) (.k 9), [], 0⟩] false [0, 1, 10] [])
  (.cond 10 (.seq (.reg [] [⟨some 4, none, .mv (.c (.i .i64 6)), [], 0⟩] false [4] [])
  .ret)
  .skip))
  (.seq (.seq (.reg [] [⟨some 11, none, .mv (.t 1), [], 0⟩,
    ⟨some 12, none, .bin .lss (.k 11) (.c (.i .i64 1)), [], 0⟩,
    ⟨some 13, none, .mv (.k 12), [], 0⟩,
    ⟨some 14, some (13, false), .mv (.t 1), [], 0⟩,
    ⟨some 15, some (13, false), .bin .gtr (.k 14) (.c (.i .i64 16)), [], 0⟩,
    ⟨some 16, none, .pick (.k 13) (.c (.b true)) (.k 15), [], 0⟩] false [0, 1, 16] [])
  (.cond 16 (.seq (.reg [] [⟨some 4, none, .mv (.c (.i .i64 5)), [], 0⟩] false [4] [])
  .ret)
  .skip))
  (.seq (.seq (.reg [] [⟨some 17, none, .mv (.k 0), [], 0⟩,
    ⟨some 18, none, .bin .eql (.k 17) (.c (.i .i64 4)), [], 0⟩,
    ⟨some 19, none, .mv (.k 18), [], 0⟩,
    ⟨some 20, some (19, true), .mv (.t 1), [], 0⟩,
    ⟨some 21, some (19, true), .bin .neq (.k 20) (.c (.i .i64 1)), [], 0⟩,
    ⟨some 22, none, .pick (.k 19) (.k 21) (.c (.b false)), [], 0⟩,
    ⟨some 23, none, .mv (.k 22), [], 0⟩,
    ⟨some 24, some (23, true), .mv (.t 1), [], 0⟩,
    ⟨some 25, some (23, true), .bin .neq (.k 24) (.c (.i .i64 2)), [], 0⟩,
    ⟨some 26, none, .pick (.k 23) (.k 25) (.c (.b false)), [], 0⟩,
    ⟨some 27, none, .mv (.k 26), [], 0⟩,
    ⟨some 28, some (27, true), .mv (.t 1), [], 0⟩,
    ⟨some 29, some (27, true), .bin .neq (.k 28) (.c (.i .i64 4)), [], 0⟩,
    ⟨some 30, none, .pick (.k 27) (.k 29) (.c (.b false)), [], 0⟩,
    ⟨some 31, none, .mv (.k 30), [], 0⟩,
    ⟨some 32, some (31, true), .mv (.t 1), [], 0⟩,
    ⟨some 33, some (31, true), .bin .neq (.k 32) (.c (.i .i64 8)), [], 0⟩,
    ⟨some 34, none, .pick (.k 31) (.k 33) (.c (.b false)), [], 0⟩,
    ⟨some 35, none, .mv (.k 34), [], 0⟩,
    ⟨some 36, some (35, true), .mv (.k 1), [], 0⟩,
    ⟨some 37, some (35, true), .bin .neq (.k 36) (.c (.i .i64 16)), [], 0⟩,
    ⟨some 38, none, .pick (.k 35) (.k 37) (.c (.b false)), [], 0⟩] false [38] [])
  (.cond 38 (.seq (.reg [] [⟨some 4, none, .mv (.c (.i .i64 5)), [], 0⟩] false [4] [])
  .ret)
  .skip))
  (.seq (.reg [] [⟨some 4, none, .mv (.c (.i .i64 0)), [], 0⟩] false [4] [])
  .ret)))))⟩

def F_c_law03_F : F := ⟨1, [.inl 2],
  (.seq (.reg [] [⟨some 2, none, .mv (.c (.f .f64 0)), [], 0⟩] false [0] [])
  (.seq (.reg [] [⟨some 3, none, .mv (.k 0), [], 0⟩,
    ⟨some 4, none, .frbits (.k 3), [], 0⟩,
    ⟨some 2, none, .mv (.k 4), [], 0⟩] false [2] [])
  .ret))⟩

def F_real_Cmp : F := ⟨2, [.inl 4],
  (.seq (.reg [] [⟨some 4, none, .mv (.c (.i .i64 0)), [], 0⟩] false [0, 1] [])
  (.seq (.reg [] [⟨some 7, none, .mv (.k 0), [], 0⟩,
    ⟨some 8, none, .call n_real_Key [.k 7], [], 0⟩,
    ⟨some 9, none, .mv (.k 1), [], 0⟩,
    ⟨some 10, none, .call n_real_Key [.k 9], [], 0⟩,
    ⟨some 5, none, .mv (.k 8), [], 0⟩,
    ⟨some 6, none, .mv (.k 10), [], 0⟩] false [5, 6] [])
  (.seq (.blk 0 (.seq (.reg [] [⟨some 12, none, .mv (.t 5), [], 0⟩,
    ⟨some 13, none, .mv (.t 6), [], 0⟩,
    ⟨some 14, none, .bin .lss (.k 12) (.k 13), [], 0⟩,
    ⟨some 11, none, .mv (.k 14), [], 0⟩] false [5, 6, 11] [])
  (.cond 11 (.seq (.reg [] [⟨some 4, none, .mv (.c (.i .i64 (-1))), [], 0⟩] false [4] [])
  .ret)
  (.seq (.reg [] [⟨some 16, none, .mv (.k 5), [], 0⟩,
    ⟨some 17, none, .mv (.k 6), [], 0⟩,
    ⟨some 18, none, .bin .gtr (.k 16) (.k 17), [], 0⟩,
    ⟨some 15, none, .mv (.k 18), [], 0⟩] false [15] [])
  (.cond 15 (.seq (.reg [] [⟨some 4, none, .mv (.c (.i .i64 1)), [], 0⟩] false [4] [])
  .ret)
  .skip)))))
  (.seq (.reg [] [⟨some 4, none, .mv (.c (.i .i64 0)), [], 0⟩] false [4] [])
  .ret))))⟩

def F_c_law17_sorted : F := ⟨1, [.inl 2],
  (.seq (.reg [.zz 0] [⟨some 2, none, .mv (.c (.l .o 2 [])), [], 0⟩] false [0] [])
  (.seq (.reg [] [⟨some 7, none, .bs 2 0 (.a ([.f .f64 0, .i .i64 0])) [], [], 1⟩,
    ⟨some 3, none, .mv (.k 7), [], 0⟩] false [0, 3] [])
  (.seq (.seq (.reg [] [⟨some 8, none, .mv (.k 0), [], 0⟩,
    ⟨some 9, none, .len false (.t 8), [], 0⟩,
    ⟨some 10, none, .mv (.c (.i .i64 0)), [], 0⟩] false [3, 8, 9, 10] [])
  (.blk 0 (.loop (.seq (.reg [] [⟨some 11, none, .bin .lss (.t 10) (.t 9), [], 0⟩] false [3, 8, 9, 10, 11] [])
  (.seq (.cond 11 .skip
  (.exit 0))
  (.seq (.blk 1 (.seq (.reg [] [⟨some 12, none, .ia 2 none (.t 8) (.t 10), [], 0⟩,
    ⟨some 13, none, .ld true 2 .cp (.k 12), [], 0⟩,
    ⟨some 5, none, .al ([.f .f64 0, .i .i64 0]), [], 0⟩,
    ⟨none, none, .st 2 (.t 5) (.k 13), [], 0⟩] false [3, 5, 8, 9, 10] [5])
  (.seq (.reg [] [⟨some 14, none, .mv (.t 3), [], 0⟩,
    ⟨some 15, none, .len false (.k 14), [], 0⟩,
    ⟨some 6, none, .mv (.k 15), [], 0⟩] false [3, 5, 6, 8, 9, 10] [5])
  (.seq (.blk 2 (.loop (.seq (.seq (.reg [] [⟨some 16, none, .mv (.t 6), [], 0⟩,
    ⟨some 17, none, .bin .gtr (.k 16) (.c (.i .i64 0)), [], 0⟩,
    ⟨some 18, none, .mv (.k 17), [], 0⟩,
    ⟨some 19, some (18, true), .ld true 2 .cp (.t 5), [], 0⟩,
    ⟨some 20, some (18, true), .mv (.t 3), [3], 0⟩,
    ⟨some 21, some (18, true), .mv (.t 6), [3, 4], 0⟩,
    ⟨some 22, some (18, true), .bin .sub (.k 21) (.c (.i .i64 1)), [3, 4], 0⟩,
    ⟨some 23, some (18, true), .ia 2 none (.k 20) (.k 22), [3], 0⟩,
    ⟨some 24, some (18, true), .ld true 2 .cp (.k 23), [3], 0⟩,
    ⟨some 25, some (18, true), .call n_pile_Item_Cmp [.k 19, .k 24], [], 0⟩,
    ⟨some 26, some (18, true), .bin .lss (.k 25) (.c (.i .i64 0)), [], 0⟩,
    ⟨some 27, none, .pick (.t 18) (.k 26) (.c (.b false)), [], 0⟩] true [3, 5, 6, 8, 9, 10, 27] [5])
  (.cond 27 .skip
  (.exit 2)))
  (.blk 3 (.reg [] [⟨some 28, none, .mv (.k 6), [], 0⟩,
    ⟨some 29, none, .bin .sub (.k 28) (.c (.i .i64 1)), [], 0⟩,
    ⟨some 6, none, .mv (.k 29), [], 0⟩] false [3, 5, 6, 8, 9, 10] [5])))))
  (.reg [] [⟨some 30, none, .mv (.t 3), [], 0⟩,
    ⟨some 31, none, .mv (.t 6), [0], 0⟩,
    ⟨some 32, none, .mv (.t 6), [0, 1], 0⟩,
    ⟨some 33, none, .sl 2 (.k 30) none (some (.k 31)) (some (.k 32)), [], 0⟩,
    ⟨some 34, none, .ld true 2 .cp (.k 5), [0, 1, 2, 3], 0⟩,
    ⟨some 35, none, .bs 2 1 (.a ([.f .f64 0, .i .i64 0])) [(0, .k 34)], [0, 1, 2, 3], 1⟩,
    ⟨some 36, none, .mv (.t 3), [0, 1, 2, 3, 4, 5], 0⟩,
    ⟨some 37, none, .mv (.t 6), [0, 1, 2, 3, 4, 5, 6], 0⟩,
    ⟨some 38, none, .sl 2 (.k 36) (some (.k 37)) none none, [0, 1, 2, 3, 4, 5], 0⟩,
    ⟨some 39, none, .app 2 16 (.k 35) (.k 38), [0, 1, 2, 3], 1⟩,
    ⟨some 40, none, .app 2 16 (.k 33) (.k 39), [], 1⟩,
    ⟨some 3, none, .mv (.k 40), [], 0⟩] true [3, 8, 9, 10] [])))))
  (.reg [] [⟨some 41, none, .bin .add (.k 10) (.c (.i .i64 1)), [], 0⟩,
    ⟨some 10, none, .mv (.k 41), [], 0⟩] false [3, 8, 9, 10] [])))))))
  (.seq (.reg [] [⟨some 42, none, .mv (.k 3), [], 0⟩,
    ⟨some 2, none, .mv (.k 42), [], 0⟩] false [2] [])
  .ret))))⟩

def F_image_Room : F := ⟨1, [.inl 2],
  (.seq (.reg [] [⟨some 2, none, .mv (.c (.i .i64 0)), [], 0⟩] false [0] [])
  (.seq (.reg [] [⟨some 3, none, .mv (.t 0), [], 0⟩,
    ⟨some 4, none, .mx true [.k 3, .c (.i .i64 1)], [], 0⟩,
    ⟨some 5, none, .bin .quo (.c (.i .i64 998)) (.k 4), [], 0⟩,
    ⟨some 6, none, .mv (.k 0), [], 0⟩,
    ⟨some 7, none, .mx true [.k 6, .c (.i .i64 1)], [], 0⟩,
    ⟨some 8, none, .bin .mul (.k 5) (.k 7), [], 0⟩,
    ⟨some 2, none, .mv (.k 8), [], 0⟩] false [2] [])
  .ret))⟩

def F_cell_Memory_Force : F := ⟨3, [.inl 6],
  (.seq (.reg [.zz 2] [⟨some 5, none, .bx (.k 2), [], 0⟩,
    ⟨some 6, none, .mv (.c (.b false)), [], 0⟩] false [0, 1, 5] [5])
  (.seq (.reg [] [⟨some 7, none, .mv (.t 0), [], 0⟩,
    ⟨some 8, none, .mv (.t 1), [0], 0⟩,
    ⟨some 9, none, .mv (.t 0), [0, 1], 0⟩,
    ⟨some 10, none, .mv (.t 1), [0, 1, 2], 0⟩,
    ⟨some 11, none, .call n_cell_Memory_Read [.k 9, .k 10], [0, 1], 0⟩,
    ⟨some 12, none, .fd false 0 1 (.k 11), [0, 1], 0⟩,
    ⟨some 13, none, .ld true 2 .cp (.k 5), [0, 1, 2, 3, 4, 5], 2⟩,
    ⟨some 14, none, .call n_cell_Memory_Write [.k 7, .k 8, .k 12, .k 13], [], 0⟩,
    ⟨some 6, none, .mv (.k 14), [], 0⟩] true [6] [])
  .ret))⟩

def F_spread_fifo : F := ⟨2, [],
  (.seq (.reg [.zz 1] [⟨some 3, none, .bx (.k 1), [], 0⟩] false [0, 3] [3])
  (.seq (.reg [] [⟨some 10, none, .fa 1 (.t 3), [], 0⟩,
    ⟨some 11, none, .ld false 1 .cp (.k 10), [], 0⟩,
    ⟨some 12, none, .call n_kfifo_New [.k 11], [], 0⟩,
    ⟨some 9, none, .mv (.k 12), [], 0⟩,
    ⟨some 13, none, .ex false 0 9, [], 0⟩,
    ⟨some 14, none, .ex false 1 9, [], 0⟩,
    ⟨some 4, none, .al ([.i .i64 0]), [], 0⟩,
    ⟨none, none, .st 1 (.t 4) (.k 13), [], 0⟩,
    ⟨some 5, none, .mv (.k 14), [], 0⟩] false [0, 3, 4] [3, 4])
  (.seq (.seq (.reg [] [⟨some 15, none, .fa 3 (.t 3), [], 0⟩,
    ⟨some 16, none, .ld false 1 .cp (.k 15), [], 0⟩,
    ⟨some 17, none, .ia 1 none (.k 16) (.c (.i .i64 0)), [], 0⟩,
    ⟨some 18, none, .ld false 1 .cp (.k 17), [], 0⟩,
    ⟨some 19, none, .len false (.t 18), [], 0⟩,
    ⟨some 20, none, .mv (.c (.i .i64 0)), [], 0⟩] false [0, 3, 4, 18, 19, 20] [3, 4])
  (.blk 0 (.loop (.seq (.reg [] [⟨some 21, none, .bin .lss (.t 20) (.t 19), [], 0⟩] false [0, 3, 4, 18, 19, 20, 21] [3, 4])
  (.seq (.cond 21 .skip
  (.exit 0))
  (.seq (.blk 1 (.seq (.reg [] [⟨some 22, none, .mv (.t 20), [], 0⟩,
    ⟨some 23, none, .ia 2 none (.t 18) (.t 20), [], 0⟩,
    ⟨some 24, none, .ld true 2 .cp (.k 23), [], 0⟩,
    ⟨some 7, none, .al ([.f .f64 0, .i .i64 0]), [], 0⟩,
    ⟨some 6, none, .mv (.k 22), [], 0⟩,
    ⟨none, none, .st 2 (.t 7) (.k 24), [], 0⟩] false [0, 3, 4, 6, 7, 18, 19, 20] [3, 4, 7])
  (.reg [] [⟨some 25, none, .mv (.t 0), [], 0⟩,
    ⟨some 26, none, .ld true 1 .cp (.t 4), [0], 0⟩,
    ⟨some 27, none, .mv (.t 6), [0, 1], 0⟩,
    ⟨some 28, none, .fa 1 (.t 3), [0, 1, 2], 0⟩,
    ⟨some 29, none, .ld false 1 .cp (.k 28), [0, 1, 2], 0⟩,
    ⟨some 30, none, .bin .quo (.k 27) (.k 29), [0, 1], 0⟩,
    ⟨some 31, none, .mv (.t 6), [0, 1, 2, 3, 4, 5], 0⟩,
    ⟨some 32, none, .fa 1 (.t 3), [0, 1, 2, 3, 4, 5, 6], 0⟩,
    ⟨some 33, none, .ld false 1 .cp (.k 32), [0, 1, 2, 3, 4, 5, 6], 0⟩,
    ⟨some 34, none, .bin .rem (.k 31) (.k 33), [0, 1, 2, 3, 4, 5], 0⟩,
    ⟨some 35, none, .call n_kfifo_Queue_Slot [.k 26, .k 30, .k 34], [0], 0⟩,
    ⟨some 36, none, .ld true 2 .cp (.k 7), [0, 1, 2, 3, 4, 5, 6, 7, 8, 9, 10], 0⟩,
    ⟨some 37, none, .bs 2 1 (.a ([.f .f64 0, .i .i64 0])) [(0, .k 36)], [0, 1, 2, 3, 4, 5, 6, 7, 8, 9, 10], 1⟩,
    ⟨some 38, none, .bd ([.i .i64 0, .l .o 2 []]) [(0, 1, .c (.i .i64 1)), (1, 1, .k 37)], [0, 1, 2, 3, 4, 5, 6, 7, 8, 9, 10], 2⟩,
    ⟨some 39, none, .call n_cell_Memory_Force [.k 25, .k 35, .k 38], [], 0⟩] true [0, 3, 4, 18, 19, 20] [3, 4])))
  (.reg [] [⟨some 40, none, .bin .add (.k 20) (.c (.i .i64 1)), [], 0⟩,
    ⟨some 20, none, .mv (.k 40), [], 0⟩] false [0, 3, 4, 18, 19, 20] [3, 4])))))))
  (.seq (.reg [] [⟨some 41, none, .fa 3 (.t 3), [], 0⟩,
    ⟨some 42, none, .ld false 1 .cp (.k 41), [], 0⟩,
    ⟨some 43, none, .ia 1 none (.k 42) (.c (.i .i64 0)), [], 0⟩,
    ⟨some 44, none, .ld false 1 .cp (.k 43), [], 0⟩,
    ⟨some 45, none, .len false (.k 44), [], 0⟩,
    ⟨some 8, none, .mv (.k 45), [], 0⟩] false [0, 3, 8] [3])
  (.seq (.reg [] [⟨some 46, none, .mv (.t 8), [], 0⟩,
    ⟨some 47, none, .bin .gtr (.k 46) (.c (.i .i64 0)), [], 0⟩] false [0, 3, 8, 47] [3])
  (.cond 47 (.reg [] [⟨some 48, none, .mv (.k 0), [], 0⟩,
    ⟨some 49, none, .mv (.k 8), [], 0⟩,
    ⟨some 50, none, .bin .sub (.k 49) (.c (.i .i64 1)), [], 0⟩,
    ⟨some 51, none, .fa 1 (.k 3), [], 0⟩,
    ⟨some 52, none, .ld false 1 .cp (.k 51), [], 0⟩,
    ⟨some 53, none, .bin .quo (.k 50) (.k 52), [], 0⟩,
    ⟨some 54, none, .bd ([.i .i64 0, .l .o 2 []]) [(0, 1, .k 53)], [], 2⟩,
    ⟨some 55, none, .call n_cell_Memory_Force [.k 48, .c (.i .i64 1), .k 54], [], 0⟩] false [] [])
  .skip))))))⟩

def F_spread_tokens : F := ⟨2, [],
  (.seq (.reg [.zz 1] [⟨some 3, none, .bx (.k 1), [], 0⟩] false [0, 3] [3])
  (.seq (.reg [] [⟨some 11, none, .fa 1 (.t 3), [], 0⟩,
    ⟨some 12, none, .ld false 1 .cp (.k 11), [], 0⟩,
    ⟨some 13, none, .callp n_net_New [.k 12], [], 0⟩,
    ⟨some 10, none, .mv (.k 13), [], 0⟩,
    ⟨some 14, none, .ex false 0 10, [], 0⟩,
    ⟨some 15, none, .ex false 1 10, [], 0⟩,
    ⟨some 4, none, .al ([.i .i64 0, .l .o 2 [], .l .o 1 []]), [], 0⟩,
    ⟨none, none, .st 3 (.t 4) (.k 14), [], 0⟩,
    ⟨some 5, none, .mv (.k 15), [], 0⟩] false [0, 3, 4] [3, 4])
  (.seq (.reg [] [⟨some 17, none, .fa 0 (.k 4), [], 0⟩,
    ⟨some 18, none, .ld true 3 .cp (.k 17), [], 2⟩,
    ⟨some 19, none, .fa 4 (.t 3), [0, 1], 0⟩,
    ⟨some 20, none, .ld false 1 .cp (.k 19), [0, 1], 0⟩,
    ⟨some 21, none, .ia 1 none (.k 20) (.c (.i .i64 0)), [0, 1], 0⟩,
    ⟨some 22, none, .ld false 1 .cp (.k 21), [0, 1], 0⟩,
    ⟨some 23, none, .fa 1 (.t 3), [0, 1, 2, 3, 4, 5], 0⟩,
    ⟨some 24, none, .ld false 1 .cp (.k 23), [0, 1, 2, 3, 4, 5], 0⟩,
    ⟨some 25, none, .call n_wire_Even [.k 22, .k 24], [0, 1], 2⟩,
    ⟨some 26, none, .call n_wire_Plan_Pass [.k 18, .k 25], [], 0⟩,
    ⟨some 16, none, .mv (.k 26), [], 0⟩,
    ⟨some 27, none, .ex true 0 16, [], 0⟩,
    ⟨some 28, none, .ex false 1 16, [11], 0⟩,
    ⟨some 6, none, .mv (.k 27), [12], 0⟩,
    ⟨some 7, none, .mv (.k 28), [], 0⟩] true [0, 6, 7] [])
  (.seq (.reg [] [⟨some 29, none, .mv (.k 6), [], 0⟩,
    ⟨some 30, none, .mv (.k 7), [], 0⟩,
    ⟨some 31, none, .app 1 8 (.k 29) (.k 30), [], 1⟩,
    ⟨some 32, none, .len false (.t 31), [], 0⟩,
    ⟨some 33, none, .mv (.c (.i .i64 0)), [], 0⟩] false [0, 31, 32, 33] [])
  (.blk 0 (.loop (.seq (.reg [] [⟨some 34, none, .bin .lss (.t 33) (.t 32), [], 0⟩] false [0, 31, 32, 33, 34] [])
  (.seq (.cond 34 .skip
  (.exit 0))
  (.seq (.blk 1 (.seq (.reg [] [⟨some 35, none, .mv (.t 33), [], 0⟩,
    ⟨some 36, none, .ia 1 none (.t 31) (.t 33), [], 0⟩,
    ⟨some 37, none, .ld false 1 .cp (.k 36), [], 0⟩,
    ⟨some 8, none, .mv (.k 35), [], 0⟩,
    ⟨some 9, none, .mv (.k 37), [], 0⟩] false [0, 8, 9, 31, 32, 33] [])
  (.reg [] [⟨some 38, none, .mv (.t 0), [], 0⟩,
    ⟨some 39, none, .mv (.k 8), [], 0⟩,
    ⟨some 40, none, .mv (.k 9), [], 0⟩,
    ⟨some 41, none, .bd ([.i .i64 0, .l .o 2 []]) [(0, 1, .k 40)], [], 2⟩,
    ⟨some 42, none, .call n_cell_Memory_Force [.k 38, .k 39, .k 41], [], 0⟩] false [0, 31, 32, 33] [])))
  (.reg [] [⟨some 43, none, .bin .add (.k 33) (.c (.i .i64 1)), [], 0⟩,
    ⟨some 33, none, .mv (.k 43), [], 0⟩] false [0, 31, 32, 33] []))))))))))⟩

def F_c_ref17_Check : F := ⟨1, [.inl 2],
  (.seq (.reg [.zz 0] [⟨some 1, none, .bx (.k 0), [], 0⟩,
    ⟨some 2, none, .mv (.c (.i .i64 0)), [], 0⟩] false [1] [1])
  (.seq (.seq (.reg [] [⟨some 13, none, .fa 0 (.t 1), [], 0⟩,
    ⟨some 14, none, .ld false 1 .cp (.k 13), [], 0⟩,
    ⟨some 15, none, .fa 1 (.t 1), [], 0⟩,
    ⟨some 16, none, .ld false 1 .cp (.k 15), [], 0⟩,
    ⟨some 17, none, .call n_c_ref06_Legal [.k 14, .k 16], [], 0⟩,
    ⟨some 3, none, .mv (.k 17), [], 0⟩] false [1, 3] [1])
  (.seq (.reg [] [⟨some 18, none, .mv (.t 3), [], 0⟩,
    ⟨some 19, none, .bin .neq (.k 18) (.c (.i .i64 0)), [], 0⟩] false [1, 3, 19] [1])
  (.cond 19 (.seq (.reg [] [⟨some 20, none, .mv (.k 3), [], 0⟩,
    ⟨some 2, none, .mv (.k 20), [], 0⟩] false [2] [])
  .ret)
  .skip)))
  (.seq (.reg [] [⟨some 21, none, .fa 1 (.t 1), [], 0⟩,
    ⟨some 22, none, .ld false 1 .cp (.k 21), [], 0⟩,
    ⟨some 23, none, .bs 1 5 (.i .i64 0) [(0, .c (.i .i64 0)), (1, .k 22), (2, .c (.i .i64 1)), (3, .c (.i .i64 0)), (4, .c (.i .i64 0))], [], 1⟩,
    ⟨some 24, none, .fa 0 (.t 1), [], 0⟩,
    ⟨some 25, none, .ld false 1 .cp (.k 24), [], 0⟩,
    ⟨some 26, none, .ia 1 none (.k 23) (.k 25), [], 0⟩,
    ⟨some 27, none, .ld false 1 .cp (.k 26), [], 0⟩,
    ⟨some 4, none, .mv (.k 27), [], 0⟩] false [1, 4] [1])
  (.seq (.reg [] [⟨some 28, none, .fa 1 (.t 1), [], 0⟩,
    ⟨some 29, none, .ld false 1 .cp (.k 28), [], 0⟩,
    ⟨some 30, none, .bs 1 5 (.i .i64 0) [(0, .c (.i .i64 0)), (1, .c (.i .i64 0)), (2, .c (.i .i64 0)), (3, .k 29), (4, .c (.i .i64 1))], [], 1⟩,
    ⟨some 31, none, .fa 0 (.t 1), [], 0⟩,
    ⟨some 32, none, .ld false 1 .cp (.k 31), [], 0⟩,
    ⟨some 33, none, .ia 1 none (.k 30) (.k 32), [], 0⟩,
    ⟨some 34, none, .ld false 1 .cp (.k 33), [], 0⟩,
    ⟨some 5, none, .mv (.k 34), [], 0⟩] false [1, 4, 5] [1])
  (.seq (.seq (.reg [] [⟨some 35, none, .fa 3 (.t 1), [], 0⟩,
    ⟨some 36, none, .ld false 1 .cp (.k 35), [], 0⟩,
    ⟨some 37, none, .len false (.k 36), [], 0⟩,
    ⟨some 38, none, .mv (.k 4), [], 0⟩,
    ⟨some 39, none, .bin .neq (.k 37) (.k 38), [], 0⟩,
    ⟨some 40, none, .mv (.k 39), [], 0⟩,
    ⟨some 41, some (40, false), .fa 4 (.t 1), [], 0⟩,
    ⟨some 42, some (40, false), .ld false 1 .cp (.k 41), [], 0⟩,
    ⟨some 43, some (40, false), .len false (.k 42), [], 0⟩,
    ⟨some 44, some (40, false), .mv (.k 5), [], 0⟩,
    ⟨some 45, some (40, false), .bin .neq (.k 43) (.k 44), [], 0⟩,
    ⟨some 46, none, .pick (.k 40) (.c (.b true)) (.k 45), [], 0⟩] false [1, 46] [1])
  (.cond 46 (.seq (.reg [] [⟨some 2, none, .mv (.c (.i .i64 2)), [], 0⟩] false [2] [])
  .ret)
  .skip))
  (.seq (.reg [] [⟨some 6, none, .mv (.c (.i .i64 0)), [], 0⟩] false [1, 6] [1])
  (.seq (.seq (.reg [] [⟨some 47, none, .fa 3 (.t 1), [], 0⟩,
    ⟨some 48, none, .ld false 1 .cp (.k 47), [], 0⟩,
    ⟨some 49, none, .len false (.t 48), [], 0⟩,
    ⟨some 50, none, .mv (.c (.i .i64 0)), [], 0⟩] false [1, 6, 48, 49, 50] [1])
  (.blk 0 (.loop (.seq (.reg [] [⟨some 51, none, .bin .lss (.t 50) (.t 49), [], 0⟩] false [1, 6, 48, 49, 50, 51] [1])
  (.seq (.cond 51 .skip
  (.exit 0))
  (.seq (.blk 1 (.seq (.reg [] [⟨some 52, none, .ia 1 none (.t 48) (.t 50), [], 0⟩,
    ⟨some 53, none, .ld false 1 .cp (.k 52), [], 0⟩,
    ⟨some 8, none, .mv (.k 53), [], 0⟩] false [1, 6, 8, 48, 49, 50] [1])
  (.seq (.reg [] [⟨some 54, none, .mv (.k 6), [], 0⟩,
    ⟨some 55, none, .mv (.t 8), [], 0⟩,
    ⟨some 56, none, .len false (.k 55), [], 0⟩,
    ⟨some 57, none, .bin .add (.k 54) (.k 56), [], 0⟩,
    ⟨some 6, none, .mv (.k 57), [], 0⟩] false [1, 6, 8, 48, 49, 50] [1])
  (.seq (.seq (.reg [] [⟨some 58, none, .fa 0 (.t 1), [], 0⟩,
    ⟨some 59, none, .ld false 1 .cp (.k 58), [], 0⟩,
    ⟨some 60, none, .bin .eql (.k 59) (.c (.i .i64 2)), [], 0⟩] false [1, 6, 8, 48, 49, 50, 60] [1])
  (.cond 60 (.exit 1)
  .skip))
  (.seq (.seq (.reg [] [⟨some 61, none, .mv (.t 8), [], 0⟩,
    ⟨some 62, none, .len false (.k 61), [], 0⟩,
    ⟨some 63, none, .bin .gtr (.k 62) (.c (.i .i64 62)), [], 0⟩] false [1, 6, 8, 48, 49, 50, 63] [1])
  (.cond 63 (.seq (.reg [] [⟨some 2, none, .mv (.c (.i .i64 3)), [], 0⟩] false [2] [])
  .ret)
  .skip))
  (.seq (.reg [] [⟨some 9, none, .mv (.c (.i .i64 1)), [], 0⟩] false [1, 6, 8, 9, 48, 49, 50] [1])
  (.blk 2 (.loop (.seq (.seq (.reg [] [⟨some 64, none, .mv (.t 9), [], 0⟩,
    ⟨some 65, none, .mv (.t 8), [], 0⟩,
    ⟨some 66, none, .len false (.k 65), [], 0⟩,
    ⟨some 67, none, .bin .lss (.k 64) (.k 66), [], 0⟩] false [1, 6, 8, 9, 48, 49, 50, 67] [1])
  (.cond 67 .skip
  (.exit 2)))
  (.seq (.blk 3 (.seq (.reg [] [⟨some 70, none, .mv (.t 8), [], 0⟩,
    ⟨some 71, none, .mv (.t 9), [0], 0⟩,
    ⟨some 72, none, .bin .sub (.k 71) (.c (.i .i64 1)), [0], 0⟩,
    ⟨some 73, none, .ia 2 none (.k 70) (.k 72), [], 0⟩,
    ⟨some 74, none, .ld true 2 .cp (.k 73), [], 0⟩,
    ⟨some 75, none, .mv (.t 8), [0, 1, 2, 3, 4], 0⟩,
    ⟨some 76, none, .mv (.t 9), [0, 1, 2, 3, 4, 5], 0⟩,
    ⟨some 77, none, .ia 2 none (.k 75) (.k 76), [0, 1, 2, 3, 4], 0⟩,
    ⟨some 78, none, .ld true 2 .cp (.k 77), [0, 1, 2, 3, 4], 0⟩,
    ⟨some 79, none, .call n_c_ref04_Cmp [.k 74, .k 78], [], 0⟩,
    ⟨some 80, none, .bin .gtr (.k 79) (.c (.i .i64 0)), [], 0⟩] true [1, 6, 8, 9, 48, 49, 50, 80] [1])
  (.cond 80 (.seq (.reg [] [⟨some 2, none, .mv (.c (.i .i64 14)), [], 0⟩] false [2] [])
  .ret)
  .skip)))
  (.reg [] [⟨some 68, none, .mv (.k 9), [], 0⟩,
    ⟨some 69, none, .bin .add (.k 68) (.c (.i .i64 1)), [], 0⟩,
    ⟨some 9, none, .mv (.k 69), [], 0⟩] false [1, 6, 8, 9, 48, 49, 50] [1])))))))))))
  (.reg [] [⟨some 81, none, .bin .add (.k 50) (.c (.i .i64 1)), [], 0⟩,
    ⟨some 50, none, .mv (.k 81), [], 0⟩] false [1, 6, 48, 49, 50] [1])))))))
  (.seq (.seq (.reg [] [⟨some 82, none, .mv (.k 6), [], 0⟩,
    ⟨some 83, none, .bin .gtr (.k 82) (.c (.i .i64 1000)), [], 0⟩] false [1, 83] [1])
  (.cond 83 (.seq (.reg [] [⟨some 2, none, .mv (.c (.i .i64 3)), [], 0⟩] false [2] [])
  .ret)
  .skip))
  (.seq (.reg [] [⟨some 10, none, .mv (.c (.i .i64 0)), [], 0⟩] false [1, 10] [1])
  (.seq (.seq (.reg [] [⟨some 84, none, .fa 4 (.k 1), [], 0⟩,
    ⟨some 85, none, .ld false 1 .tk (.k 84), [], 0⟩,
    ⟨some 86, none, .len false (.t 85), [], 0⟩,
    ⟨some 87, none, .mv (.c (.i .i64 0)), [], 0⟩] false [10, 85, 86, 87] [])
  (.blk 4 (.loop (.seq (.reg [] [⟨some 88, none, .bin .lss (.t 87) (.t 86), [], 0⟩] false [10, 85, 86, 87, 88] [])
  (.seq (.cond 88 .skip
  (.exit 4))
  (.seq (.blk 5 (.seq (.reg [] [⟨some 89, none, .ia 1 none (.t 85) (.t 87), [], 0⟩,
    ⟨some 90, none, .ld false 1 .cp (.k 89), [], 0⟩,
    ⟨some 12, none, .mv (.k 90), [], 0⟩] false [10, 12, 85, 86, 87] [])
  (.seq (.seq (.reg [] [⟨some 91, none, .mv (.t 12), [], 0⟩,
    ⟨some 92, none, .bin .lss (.k 91) (.c (.i .i64 0)), [], 0⟩,
    ⟨some 93, none, .mv (.k 92), [], 0⟩,
    ⟨some 94, some (93, false), .mv (.t 12), [], 0⟩,
    ⟨some 95, some (93, false), .bin .gtr (.k 94) (.c (.i .i64 1125899906842624)), [], 0⟩,
    ⟨some 96, none, .pick (.k 93) (.c (.b true)) (.k 95), [], 0⟩] false [10, 12, 85, 86, 87, 96] [])
  (.cond 96 (.seq (.reg [] [⟨some 2, none, .mv (.c (.i .i64 4)), [], 0⟩] false [2] [])
  .ret)
  .skip))
  (.reg [] [⟨some 97, none, .mv (.k 10), [], 0⟩,
    ⟨some 98, none, .mv (.k 12), [], 0⟩,
    ⟨some 99, none, .bin .add (.k 97) (.k 98), [], 0⟩,
    ⟨some 10, none, .mv (.k 99), [], 0⟩] false [10, 85, 86, 87] []))))
  (.reg [] [⟨some 100, none, .bin .add (.k 87) (.c (.i .i64 1)), [], 0⟩,
    ⟨some 87, none, .mv (.k 100), [], 0⟩] false [10, 85, 86, 87] [])))))))
  (.seq (.seq (.reg [] [⟨some 101, none, .mv (.k 10), [], 0⟩,
    ⟨some 102, none, .bin .gtr (.k 101) (.c (.i .i64 1125899906842624)), [], 0⟩] false [102] [])
  (.cond 102 (.seq (.reg [] [⟨some 2, none, .mv (.c (.i .i64 4)), [], 0⟩] false [2] [])
  .ret)
  .skip))
  (.seq (.reg [] [⟨some 2, none, .mv (.c (.i .i64 0)), [], 0⟩] false [2] [])
  .ret))))))))))))⟩

def F_c_ref18_room : F := ⟨1, [.inl 2],
  (.seq (.reg [] [⟨some 2, none, .mv (.c (.i .i64 0)), [], 0⟩] false [0] [])
  (.seq (.reg [] [⟨some 3, none, .mv (.t 0), [], 0⟩,
    ⟨some 4, none, .bin .quo (.c (.i .i64 998)) (.k 3), [], 0⟩,
    ⟨some 5, none, .mv (.k 0), [], 0⟩,
    ⟨some 6, none, .bin .mul (.k 4) (.k 5), [], 0⟩,
    ⟨some 2, none, .mv (.k 6), [], 0⟩] false [2] [])
  .ret))⟩

def F_c_ref18_number : F := ⟨3, [.inr (6, true, 1)],
  (.seq (.reg [] [⟨some 3, none, .bx (.k 0), [], 0⟩,
    ⟨some 6, none, .al ([.l .o 3 []]), [], 0⟩] false [1, 2, 3, 6] [3, 6])
  (.seq (.reg [] [⟨some 7, none, .fa 0 (.k 3), [], 0⟩,
    ⟨some 8, none, .ld false 1 .tk (.k 7), [], 0⟩,
    ⟨some 9, none, .mv (.k 1), [], 0⟩,
    ⟨some 10, none, .mv (.k 2), [], 0⟩,
    ⟨some 11, none, .bd ([.i .i64 0, .l .o 2 []]) [(0, 1, .k 10)], [], 0⟩,
    ⟨some 12, none, .bd ([.i .i64 0, .i .i64 0, .l .o 2 []]) [(0, 1, .k 9), (1, 2, .k 11)], [], 0⟩,
    ⟨some 13, none, .bs 3 1 (.a ([.i .i64 0, .i .i64 0, .l .o 2 []])) [(0, .k 12)], [], 0⟩,
    ⟨some 14, none, .app 3 40 (.k 8) (.k 13), [], 1⟩,
    ⟨some 15, none, .bd ([.l .o 3 []]) [(0, 1, .k 14)], [], 0⟩,
    ⟨none, none, .st 1 (.t 6) (.k 15), [], 0⟩] false [6] [6])
  .ret))⟩

def F_c_ref18_pass : F := ⟨2, [.inl 4],
  (.seq (.reg [.zz 0, .zz 1] [⟨some 2, none, .bx (.k 0), [], 0⟩,
    ⟨some 4, none, .mv (.c (.l .o 1 [])), [], 0⟩] false [1, 2] [2])
  (.seq (.reg [] [⟨some 13, none, .bs 1 0 (.i .i64 0) [], [], 0⟩,
    ⟨some 14, none, .mv (.k 1), [], 0⟩,
    ⟨some 15, none, .app 1 8 (.k 13) (.k 14), [], 0⟩,
    ⟨some 5, none, .mv (.k 15), [], 0⟩] false [2, 5] [2, 5])
  (.seq (.reg [] [⟨some 16, none, .bs 1 0 (.i .i64 0) [], [], 1⟩,
    ⟨some 6, none, .mv (.k 16), [], 0⟩] false [2, 5, 6] [2, 5])
  (.seq (.seq (.reg [] [⟨some 7, none, .mv (.c (.i .i64 0)), [], 0⟩] false [2, 5, 6, 7] [2, 5])
  (.blk 0 (.loop (.seq (.seq (.reg [] [⟨some 17, none, .mv (.t 7), [], 0⟩,
    ⟨some 18, none, .fa 0 (.t 2), [], 0⟩,
    ⟨some 19, none, .ld false 1 .cp (.k 18), [], 0⟩,
    ⟨some 20, none, .len false (.k 19), [], 0⟩,
    ⟨some 21, none, .bin .lss (.k 17) (.k 20), [], 0⟩] false [2, 5, 6, 7, 21] [2, 5])
  (.cond 21 .skip
  (.exit 0)))
  (.seq (.blk 1 (.seq (.reg [] [⟨some 24, none, .fa 0 (.t 2), [], 0⟩,
    ⟨some 25, none, .ld false 1 .cp (.k 24), [], 0⟩,
    ⟨some 26, none, .mv (.t 7), [0, 1], 0⟩,
    ⟨some 27, none, .ia 1 none (.k 25) (.k 26), [], 0⟩,
    ⟨some 28, none, .ld false 1 .cp (.k 27), [], 0⟩,
    ⟨some 29, none, .fa 0 (.t 2), [0, 1, 2, 3, 4], 0⟩,
    ⟨some 30, none, .ld false 1 .cp (.k 29), [0, 1, 2, 3, 4], 0⟩,
    ⟨some 31, none, .mv (.t 7), [0, 1, 2, 3, 4, 5, 6], 0⟩,
    ⟨some 32, none, .bin .add (.k 31) (.c (.i .i64 1)), [0, 1, 2, 3, 4, 5, 6], 0⟩,
    ⟨some 33, none, .ia 1 none (.k 30) (.k 32), [0, 1, 2, 3, 4], 0⟩,
    ⟨some 34, none, .ld false 1 .cp (.k 33), [0, 1, 2, 3, 4], 0⟩,
    ⟨some 8, none, .mv (.k 28), [5, 6, 7, 8, 9, 10], 0⟩,
    ⟨some 9, none, .mv (.k 34), [], 0⟩] true [2, 5, 6, 7, 8, 9] [2, 5])
  (.seq (.reg [.thaw 5] [⟨some 35, none, .mv (.t 5), [], 0⟩,
    ⟨some 36, none, .mv (.t 8), [0], 0⟩,
    ⟨some 37, none, .ia 1 none (.k 35) (.k 36), [], 0⟩,
    ⟨some 38, none, .ld false 1 .cp (.k 37), [], 0⟩,
    ⟨some 39, none, .mv (.t 5), [0, 1, 2, 3], 0⟩,
    ⟨some 40, none, .mv (.t 9), [0, 1, 2, 3, 4], 0⟩,
    ⟨some 41, none, .ia 1 none (.k 39) (.k 40), [0, 1, 2, 3], 0⟩,
    ⟨some 42, none, .ld false 1 .cp (.k 41), [0, 1, 2, 3], 0⟩,
    ⟨some 43, none, .bin .add (.k 38) (.k 42), [], 0⟩,
    ⟨some 10, none, .mv (.k 43), [], 0⟩] true [2, 5, 6, 7, 8, 9, 10] [2, 5])
  (.seq (.reg [] [⟨some 44, none, .mv (.k 6), [], 0⟩,
    ⟨some 45, none, .mv (.t 10), [], 0⟩,
    ⟨some 46, none, .bs 1 1 (.i .i64 0) [(0, .k 45)], [], 0⟩,
    ⟨some 47, none, .app 1 8 (.k 44) (.k 46), [], 1⟩,
    ⟨some 6, none, .mv (.k 47), [], 0⟩] false [2, 5, 6, 7, 8, 9, 10] [2, 5])
  (.seq (.reg [.thaw 5] [⟨some 48, none, .mv (.t 5), [], 0⟩,
    ⟨some 49, none, .mv (.k 8), [], 0⟩,
    ⟨some 50, none, .mv (.t 10), [], 0⟩,
    ⟨some 51, none, .bin .add (.k 50) (.c (.i .i64 1)), [], 0⟩,
    ⟨some 52, none, .bin .quo (.k 51) (.c (.i .i64 2)), [], 0⟩,
    ⟨some 53, none, .ia 1 none (.k 48) (.k 49), [], 0⟩,
    ⟨none, none, .st 1 (.k 53) (.k 52), [], 0⟩] false [2, 5, 6, 7, 9, 10] [2, 5])
  (.reg [.thaw 5] [⟨some 54, none, .mv (.t 5), [], 0⟩,
    ⟨some 55, none, .mv (.k 9), [], 0⟩,
    ⟨some 56, none, .mv (.k 10), [], 0⟩,
    ⟨some 57, none, .bin .quo (.k 56) (.c (.i .i64 2)), [], 0⟩,
    ⟨some 58, none, .ia 1 none (.k 54) (.k 55), [], 0⟩,
    ⟨none, none, .st 1 (.k 58) (.k 57), [], 0⟩] false [2, 5, 6, 7] [2, 5]))))))
  (.reg [] [⟨some 22, none, .mv (.k 7), [], 0⟩,
    ⟨some 23, none, .bin .add (.k 22) (.c (.i .i64 2)), [], 0⟩,
    ⟨some 7, none, .mv (.k 23), [], 0⟩] false [2, 5, 6, 7] [2, 5]))))))
  (.seq (.seq (.reg [] [⟨some 59, none, .fa 1 (.k 2), [], 0⟩,
    ⟨some 60, none, .ld false 1 .tk (.k 59), [], 0⟩,
    ⟨some 61, none, .len false (.t 60), [], 0⟩,
    ⟨some 62, none, .mv (.c (.i .i64 0)), [], 0⟩] false [5, 6, 60, 61, 62] [5])
  (.blk 2 (.loop (.seq (.reg [] [⟨some 63, none, .bin .lss (.t 62) (.t 61), [], 0⟩] false [5, 6, 60, 61, 62, 63] [5])
  (.seq (.cond 63 .skip
  (.exit 2))
  (.seq (.blk 3 (.seq (.reg [] [⟨some 64, none, .ia 1 none (.t 60) (.t 62), [], 0⟩,
    ⟨some 65, none, .ld false 1 .cp (.k 64), [], 0⟩,
    ⟨some 12, none, .mv (.k 65), [], 0⟩] false [5, 6, 12, 60, 61, 62] [5])
  (.reg [.thaw 5] [⟨some 66, none, .mv (.k 6), [], 0⟩,
    ⟨some 67, none, .mv (.t 5), [], 0⟩,
    ⟨some 68, none, .mv (.k 12), [], 0⟩,
    ⟨some 69, none, .ia 1 none (.k 67) (.k 68), [], 0⟩,
    ⟨some 70, none, .ld false 1 .cp (.k 69), [], 0⟩,
    ⟨some 71, none, .bs 1 1 (.i .i64 0) [(0, .k 70)], [], 0⟩,
    ⟨some 72, none, .app 1 8 (.k 66) (.k 71), [], 1⟩,
    ⟨some 6, none, .mv (.k 72), [], 0⟩] false [5, 6, 60, 61, 62] [5])))
  (.reg [] [⟨some 73, none, .bin .add (.k 62) (.c (.i .i64 1)), [], 0⟩,
    ⟨some 62, none, .mv (.k 73), [], 0⟩] false [5, 6, 60, 61, 62] [5])))))))
  (.seq (.reg [] [⟨some 74, none, .mv (.k 6), [], 0⟩,
    ⟨some 4, none, .mv (.k 74), [], 0⟩] false [4] [])
  .ret))))))⟩

def F_c_ref10_Count : F := ⟨2, [.inr (4, true, 2)],
  (.seq (.reg [] [⟨some 4, none, .al ([.l .o 1 [], .l .o 1 []]), [], 0⟩] false [0, 1, 4] [4])
  (.seq (.seq (.reg [] [⟨some 8, none, .mv (.t 1), [], 0⟩,
    ⟨some 9, none, .bin .eql (.k 8) (.c (.i .i64 1)), [], 0⟩] false [0, 1, 4, 9] [4])
  (.cond 9 (.seq (.reg [] [⟨some 10, none, .bs 1 0 (.i .i64 0) [], [], 1⟩,
    ⟨some 11, none, .mv (.k 0), [], 0⟩,
    ⟨some 12, none, .bs 1 1 (.i .i64 0) [(0, .k 11)], [], 1⟩,
    ⟨some 13, none, .bd ([.l .o 1 [], .l .o 1 []]) [(0, 1, .k 10), (1, 1, .k 12)], [], 0⟩,
    ⟨none, none, .st 2 (.t 4) (.k 13), [], 0⟩] false [4] [4])
  .ret)
  .skip))
  (.seq (.reg [] [⟨some 14, none, .mv (.t 0), [], 0⟩,
    ⟨some 15, none, .mv (.t 1), [], 0⟩,
    ⟨some 16, none, .bin .quo (.k 15) (.c (.i .i64 2)), [], 0⟩,
    ⟨some 17, none, .callp n_c_ref10_Count [.k 14, .k 16], [], 0⟩,
    ⟨some 5, none, .al ([.l .o 1 [], .l .o 1 []]), [], 0⟩,
    ⟨none, none, .st 2 (.t 5) (.k 17), [], 0⟩] false [0, 1, 4, 5] [4, 5])
  (.seq (.reg [] [⟨some 18, none, .mv (.k 0), [], 0⟩,
    ⟨some 19, none, .mv (.t 1), [], 0⟩,
    ⟨some 20, none, .bin .quo (.k 19) (.c (.i .i64 2)), [], 0⟩,
    ⟨some 21, none, .bin .add (.k 18) (.k 20), [], 0⟩,
    ⟨some 22, none, .mv (.k 1), [], 0⟩,
    ⟨some 23, none, .bin .quo (.k 22) (.c (.i .i64 2)), [], 0⟩,
    ⟨some 24, none, .callp n_c_ref10_Count [.k 21, .k 23], [], 0⟩,
    ⟨some 6, none, .al ([.l .o 1 [], .l .o 1 []]), [], 0⟩,
    ⟨none, none, .st 2 (.t 6) (.k 24), [], 0⟩] false [4, 5, 6] [4, 5, 6])
  (.seq (.reg [] [⟨some 25, none, .fa 1 (.t 5), [], 0⟩,
    ⟨some 26, none, .ld false 1 .cp (.k 25), [], 2⟩,
    ⟨some 27, none, .fa 1 (.t 6), [], 0⟩,
    ⟨some 28, none, .ld false 1 .cp (.k 27), [], 2⟩,
    ⟨some 29, none, .call n_c_ref10_Merge [.k 26, .k 28], [], 0⟩,
    ⟨some 7, none, .al ([.l .o 1 [], .l .o 1 []]), [], 0⟩,
    ⟨none, none, .st 2 (.t 7) (.k 29), [], 0⟩] false [4, 5, 6, 7] [4, 5, 6, 7])
  (.seq (.reg [] [⟨some 30, none, .bs 1 0 (.i .i64 0) [], [], 1⟩,
    ⟨some 31, none, .fa 0 (.k 5), [0], 0⟩,
    ⟨some 32, none, .ld false 1 .cp (.k 31), [0], 0⟩,
    ⟨some 33, none, .app 1 8 (.k 30) (.k 32), [], 1⟩,
    ⟨some 34, none, .fa 0 (.k 6), [0, 1, 2, 3], 0⟩,
    ⟨some 35, none, .ld false 1 .cp (.k 34), [0, 1, 2, 3], 0⟩,
    ⟨some 36, none, .app 1 8 (.k 33) (.k 35), [], 1⟩,
    ⟨some 37, none, .fa 0 (.t 7), [0, 1, 2, 3, 4, 5, 6], 0⟩,
    ⟨some 38, none, .ld false 1 .cp (.k 37), [0, 1, 2, 3, 4, 5, 6], 0⟩,
    ⟨some 39, none, .app 1 8 (.k 36) (.k 38), [], 1⟩,
    ⟨some 40, none, .fa 1 (.t 7), [0, 1, 2, 3, 4, 5, 6, 7, 8, 9], 0⟩,
    ⟨some 41, none, .ld false 1 .cp (.k 40), [0, 1, 2, 3, 4, 5, 6, 7, 8, 9], 0⟩,
    ⟨some 42, none, .bd ([.l .o 1 [], .l .o 1 []]) [(0, 1, .k 39), (1, 1, .k 41)], [], 0⟩,
    ⟨none, none, .st 2 (.t 4) (.k 42), [], 0⟩] true [4] [4])
  .ret))))))⟩

def F_c_ref18_even : F := ⟨2, [.inl 4],
  (.seq (.reg [] [⟨some 4, none, .mv (.c (.l .o 1 [])), [], 0⟩] false [0, 1] [])
  (.seq (.reg [] [⟨some 7, none, .bs 1 0 (.i .i64 0) [], [], 1⟩,
    ⟨some 5, none, .mv (.k 7), [], 0⟩] false [0, 1, 5] [])
  (.seq (.seq (.reg [] [⟨some 6, none, .mv (.c (.i .i64 0)), [], 0⟩] false [0, 1, 5, 6] [])
  (.blk 0 (.loop (.seq (.seq (.reg [] [⟨some 8, none, .mv (.t 6), [], 0⟩,
    ⟨some 9, none, .mv (.t 1), [], 0⟩,
    ⟨some 10, none, .bin .lss (.k 8) (.k 9), [], 0⟩] false [0, 1, 5, 6, 10] [])
  (.cond 10 .skip
  (.exit 0)))
  (.seq (.blk 1 (.reg [] [⟨some 13, none, .mv (.k 5), [], 0⟩,
    ⟨some 14, none, .mv (.t 0), [], 0⟩,
    ⟨some 15, none, .mv (.t 1), [], 0⟩,
    ⟨some 16, none, .bin .add (.k 14) (.k 15), [], 0⟩,
    ⟨some 17, none, .bin .sub (.k 16) (.c (.i .i64 1)), [], 0⟩,
    ⟨some 18, none, .mv (.t 6), [], 0⟩,
    ⟨some 19, none, .bin .sub (.k 17) (.k 18), [], 0⟩,
    ⟨some 20, none, .mv (.t 1), [], 0⟩,
    ⟨some 21, none, .bin .quo (.k 19) (.k 20), [], 0⟩,
    ⟨some 22, none, .bs 1 1 (.i .i64 0) [(0, .k 21)], [], 0⟩,
    ⟨some 23, none, .app 1 8 (.k 13) (.k 22), [], 1⟩,
    ⟨some 5, none, .mv (.k 23), [], 0⟩] false [0, 1, 5, 6] []))
  (.reg [] [⟨some 11, none, .mv (.k 6), [], 0⟩,
    ⟨some 12, none, .bin .add (.k 11) (.c (.i .i64 1)), [], 0⟩,
    ⟨some 6, none, .mv (.k 12), [], 0⟩] false [0, 1, 5, 6] []))))))
  (.seq (.reg [] [⟨some 24, none, .mv (.k 5), [], 0⟩,
    ⟨some 4, none, .mv (.k 24), [], 0⟩] false [4] [])
  .ret))))⟩

def F_c_law04_Bits : F := ⟨1, [.inl 2],
  (.seq (.reg [] [⟨some 1, none, .bx (.k 0), [], 0⟩,
    ⟨some 2, none, .mv (.c (.i .u64 0)), [], 0⟩] false [1] [1])
  (.seq (.reg [] [⟨some 3, none, .fa 0 (.k 1), [], 0⟩,
    ⟨some 4, none, .ld false 1 .cp (.k 3), [], 0⟩,
    ⟨some 5, none, .bits (.k 4), [], 0⟩,
    ⟨some 6, none, .call n_c_ref03_Bits [.k 5], [], 0⟩,
    ⟨some 2, none, .mv (.k 6), [], 0⟩] false [2] [])
  .ret))⟩

def F_cell_Memory_Clock : F := ⟨1, [.inl 2],
  (.seq (.reg [] [⟨some 2, none, .mv (.c (.i .u64 0)), [], 0⟩] false [0] [])
  (.seq (.reg [] [⟨some 3, none, .mv (.k 0), [], 0⟩,
    ⟨some 4, none, .nc (.k 3), [], 0⟩,
    ⟨some 5, none, .fa 1 (.k 4), [], 0⟩,
    ⟨some 6, none, .ld false 1 .cp (.k 5), [], 0⟩,
    ⟨some 2, none, .mv (.k 6), [], 0⟩] false [2] [])
  .ret))⟩

def F_cell_Memory_Len : F := ⟨1, [.inl 2],
  (.seq (.reg [] [⟨some 2, none, .mv (.c (.i .i64 0)), [], 0⟩] false [0] [])
  (.seq (.reg [] [⟨some 3, none, .mv (.k 0), [], 0⟩,
    ⟨some 4, none, .nc (.k 3), [], 0⟩,
    ⟨some 5, none, .fa 0 (.k 4), [], 0⟩,
    ⟨some 6, none, .lda 1 (.k 5), [], 1⟩,
    ⟨some 7, none, .len false (.k 6), [], 0⟩,
    ⟨some 2, none, .mv (.k 7), [], 0⟩] false [2] [])
  .ret))⟩

def F_c_ref05_Len : F := ⟨1, [.inl 2],
  (.seq (.reg [.zz 0] [⟨some 1, none, .bx (.k 0), [], 0⟩,
    ⟨some 2, none, .mv (.c (.i .i64 0)), [], 0⟩] false [1] [1])
  (.seq (.reg [] [⟨some 3, none, .mv (.c (.i .i64 0)), [], 0⟩] false [1, 3] [1])
  (.seq (.seq (.reg [] [⟨some 6, none, .fa 0 (.k 1), [], 0⟩,
    ⟨some 7, none, .ld false 1 .tk (.k 6), [], 0⟩,
    ⟨some 8, none, .len false (.t 7), [], 0⟩,
    ⟨some 9, none, .mv (.c (.i .i64 0)), [], 0⟩] false [3, 7, 8, 9] [])
  (.blk 0 (.loop (.seq (.reg [] [⟨some 10, none, .bin .lss (.t 9) (.t 8), [], 0⟩] false [3, 7, 8, 9, 10] [])
  (.seq (.cond 10 .skip
  (.exit 0))
  (.seq (.blk 1 (.seq (.reg [] [⟨some 11, none, .ia 3 none (.t 7) (.t 9), [], 0⟩,
    ⟨some 12, none, .ld true 3 .cp (.k 11), [], 0⟩,
    ⟨some 5, none, .al ([.i .i64 0, .i .i64 0, .l .o 2 []]), [], 0⟩,
    ⟨none, none, .st 3 (.t 5) (.k 12), [], 0⟩] false [3, 5, 7, 8, 9] [5])
  (.reg [] [⟨some 13, none, .mv (.k 3), [], 0⟩,
    ⟨some 14, none, .fa 0 (.k 5), [], 0⟩,
    ⟨some 15, none, .ld false 1 .cp (.k 14), [], 0⟩,
    ⟨some 16, none, .bin .add (.k 15) (.c (.i .i64 1)), [], 0⟩,
    ⟨some 17, none, .mx true [.k 13, .k 16], [], 0⟩,
    ⟨some 3, none, .mv (.k 17), [], 0⟩] false [3, 7, 8, 9] [])))
  (.reg [] [⟨some 18, none, .bin .add (.k 9) (.c (.i .i64 1)), [], 0⟩,
    ⟨some 9, none, .mv (.k 18), [], 0⟩] false [3, 7, 8, 9] [])))))))
  (.seq (.reg [] [⟨some 19, none, .mv (.k 3), [], 0⟩,
    ⟨some 2, none, .mv (.k 19), [], 0⟩] false [2] [])
  .ret))))⟩

def F_c_ref05_Read : F := ⟨2, [.inl 4, .inr (5, true, 2)],
  (.seq (.reg [.zz 0] [⟨some 2, none, .bx (.k 0), [], 0⟩,
    ⟨some 4, none, .mv (.c (.i .i64 0)), [], 0⟩,
    ⟨some 5, none, .al ([.i .i64 0, .l .o 2 []]), [], 0⟩] false [1, 2, 5] [2, 5])
  (.seq (.reg [] [⟨some 6, none, .mv (.c (.i .i64 0)), [], 0⟩] false [1, 2, 5, 6] [2, 5])
  (.seq (.reg [] [⟨some 10, none, .bd ([.i .i64 0, .l .o 2 []]) [], [], 0⟩,
    ⟨some 7, none, .al ([.i .i64 0, .l .o 2 []]), [], 0⟩,
    ⟨none, none, .st 2 (.t 7) (.k 10), [], 0⟩] false [1, 2, 5, 6, 7] [2, 5, 7])
  (.seq (.seq (.reg [] [⟨some 11, none, .fa 0 (.k 2), [], 0⟩,
    ⟨some 12, none, .ld false 1 .tk (.k 11), [], 0⟩,
    ⟨some 13, none, .len false (.t 12), [], 0⟩,
    ⟨some 14, none, .mv (.c (.i .i64 0)), [], 0⟩] false [1, 5, 6, 7, 12, 13, 14] [5, 7])
  (.blk 0 (.loop (.seq (.reg [] [⟨some 15, none, .bin .lss (.t 14) (.t 13), [], 0⟩] false [1, 5, 6, 7, 12, 13, 14, 15] [5, 7])
  (.seq (.cond 15 .skip
  (.exit 0))
  (.seq (.blk 1 (.seq (.reg [] [⟨some 16, none, .mv (.t 14), [], 0⟩,
    ⟨some 17, none, .ia 3 none (.t 12) (.t 14), [], 0⟩,
    ⟨some 18, none, .ld true 3 .cp (.k 17), [], 0⟩,
    ⟨some 9, none, .al ([.i .i64 0, .i .i64 0, .l .o 2 []]), [], 0⟩,
    ⟨some 8, none, .mv (.k 16), [], 0⟩,
    ⟨none, none, .st 3 (.t 9) (.k 18), [], 0⟩] false [1, 5, 6, 7, 8, 9, 12, 13, 14] [5, 7, 9])
  (.seq (.reg [] [⟨some 19, none, .fa 0 (.t 9), [], 0⟩,
    ⟨some 20, none, .ld false 1 .cp (.k 19), [], 0⟩,
    ⟨some 21, none, .mv (.t 1), [], 0⟩,
    ⟨some 22, none, .bin .eql (.k 20) (.k 21), [], 0⟩] false [1, 5, 6, 7, 8, 9, 12, 13, 14, 22] [5, 7, 9])
  (.cond 22 (.reg [] [⟨some 23, none, .mv (.k 8), [], 0⟩,
    ⟨some 24, none, .bin .add (.k 23) (.c (.i .i64 1)), [], 0⟩,
    ⟨some 25, none, .fa 1 (.k 9), [0, 1], 0⟩,
    ⟨some 26, none, .ld true 2 .cp (.k 25), [0, 1], 0⟩,
    ⟨some 6, none, .mv (.k 24), [2, 3], 0⟩,
    ⟨none, none, .st 2 (.t 7) (.k 26), [], 0⟩] true [1, 5, 6, 7, 12, 13, 14] [5, 7])
  .skip))))
  (.reg [] [⟨some 27, none, .bin .add (.k 14) (.c (.i .i64 1)), [], 0⟩,
    ⟨some 14, none, .mv (.k 27), [], 0⟩] false [1, 5, 6, 7, 12, 13, 14] [5, 7])))))))
  (.seq (.reg [] [⟨some 28, none, .mv (.k 6), [], 0⟩,
    ⟨some 29, none, .ld true 2 .cp (.k 7), [0], 0⟩,
    ⟨some 4, none, .mv (.k 28), [1], 0⟩,
    ⟨none, none, .st 2 (.t 5) (.k 29), [], 0⟩] true [4, 5] [5])
  .ret)))))⟩

def F_cell_Memory_Read : F := ⟨2, [.inr (4, true, 3)],
  (.seq (.reg [] [⟨some 4, none, .al ([.i .u64 0, .i .i64 0, .l .o 2 []]), [], 0⟩] false [0, 1, 4] [4])
  (.seq (.seq (.reg [] [⟨some 6, none, .mv (.t 1), [], 0⟩,
    ⟨some 7, none, .bin .lss (.k 6) (.c (.i .i64 0)), [], 0⟩,
    ⟨some 8, none, .mv (.k 7), [], 0⟩,
    ⟨some 9, some (8, false), .mv (.t 1), [], 0⟩,
    ⟨some 10, some (8, false), .mv (.t 0), [], 0⟩,
    ⟨some 11, some (8, false), .nc (.k 10), [], 0⟩,
    ⟨some 12, some (8, false), .fa 0 (.k 11), [], 0⟩,
    ⟨some 13, some (8, false), .lda 1 (.k 12), [], 1⟩,
    ⟨some 14, some (8, false), .len false (.k 13), [], 0⟩,
    ⟨some 15, some (8, false), .bin .geq (.k 9) (.k 14), [], 0⟩,
    ⟨some 16, none, .pick (.k 8) (.c (.b true)) (.k 15), [], 0⟩] false [0, 1, 4, 16] [4])
  (.cond 16 (.seq (.reg [] [⟨some 17, none, .bd ([.i .u64 0, .i .i64 0, .l .o 2 []]) [], [], 0⟩,
    ⟨none, none, .st 3 (.t 4) (.k 17), [], 0⟩] false [4] [4])
  .ret)
  .skip))
  (.seq (.reg [] [⟨some 18, none, .mv (.k 0), [], 0⟩,
    ⟨some 19, none, .nc (.k 18), [], 0⟩,
    ⟨some 20, none, .fa 0 (.k 19), [], 0⟩,
    ⟨some 21, none, .lda 1 (.k 20), [], 1⟩,
    ⟨some 22, none, .mv (.k 1), [], 0⟩,
    ⟨some 23, none, .ia 3 none (.k 21) (.k 22), [], 0⟩,
    ⟨some 24, none, .ld true 3 .cp (.k 23), [], 0⟩,
    ⟨some 5, none, .al ([.i .u64 0, .i .i64 0, .l .o 2 []]), [], 0⟩,
    ⟨none, none, .st 3 (.t 5) (.k 24), [], 0⟩] false [4, 5] [4, 5])
  (.seq (.reg [] [⟨some 25, none, .fa 0 (.t 5), [], 0⟩,
    ⟨some 26, none, .ld false 1 .cp (.k 25), [], 0⟩,
    ⟨some 27, none, .fa 1 (.t 5), [0, 1], 0⟩,
    ⟨some 28, none, .ld true 2 .cp (.k 27), [0, 1], 2⟩,
    ⟨some 29, none, .call n_cell_Value_Clone [.k 28], [0, 1], 0⟩,
    ⟨some 30, none, .bd ([.i .u64 0, .i .i64 0, .l .o 2 []]) [(0, 1, .k 26), (1, 2, .k 29)], [], 0⟩,
    ⟨none, none, .st 3 (.t 4) (.k 30), [], 0⟩] true [4] [4])
  .ret))))⟩

def F_c_law05_Is : F := ⟨2, [.inl 4],
  (.seq (.reg [.zz 0, .zz 1] [⟨some 2, none, .bx (.k 0), [], 0⟩,
    ⟨some 3, none, .bx (.k 1), [], 0⟩,
    ⟨some 4, none, .mv (.c (.i .i64 0)), [], 0⟩] false [2, 3] [2, 3])
  (.seq (.seq (.reg [] [⟨some 5, none, .fa 0 (.t 2), [], 0⟩,
    ⟨some 6, none, .ld false 1 .cp (.k 5), [], 0⟩,
    ⟨some 7, none, .fa 0 (.t 3), [], 0⟩,
    ⟨some 8, none, .ld false 1 .cp (.k 7), [], 0⟩,
    ⟨some 9, none, .bin .neq (.k 6) (.k 8), [], 0⟩] false [2, 3, 9] [2, 3])
  (.cond 9 (.seq (.reg [] [⟨some 4, none, .mv (.c (.i .i64 (-1))), [], 0⟩] false [4] [])
  .ret)
  .skip))
  (.seq (.reg [] [⟨some 10, none, .fa 1 (.k 2), [], 0⟩,
    ⟨some 11, none, .ld false 1 .tk (.k 10), [], 2⟩,
    ⟨some 12, none, .fa 1 (.k 3), [], 0⟩,
    ⟨some 13, none, .ld false 1 .tk (.k 12), [], 2⟩,
    ⟨some 14, none, .call n_c_law04_Are [.k 11, .k 13], [], 0⟩,
    ⟨some 4, none, .mv (.k 14), [], 0⟩] false [4] [])
  .ret)))⟩

def F_op_Legal : F := ⟨2, [.inl 4],
  (.seq (.reg [] [⟨some 4, none, .mv (.c (.i .i64 0)), [], 0⟩] false [0, 1] [])
  (.seq (.blk 0 (.seq (.reg [] [⟨some 6, none, .mv (.t 0), [], 0⟩,
    ⟨some 7, none, .bin .lss (.k 6) (.c (.i .i64 1)), [], 0⟩,
    ⟨some 8, none, .mv (.k 7), [], 0⟩,
    ⟨some 9, some (8, false), .mv (.t 0), [], 0⟩,
    ⟨some 10, some (8, false), .bin .gtr (.k 9) (.c (.i .i64 4)), [], 0⟩,
    ⟨some 11, none, .pick (.k 8) (.c (.b true)) (.k 10), [], 0⟩,
    ⟨some 5, none, .mv (.k 11), [], 0⟩] false [0, 1, 5] [])
  (.cond 5 (.seq (.reg [] [⟨some 4, none, .mv (.c (.i .i64 6)), [], 0⟩] false [4] [])
  .ret)
  (.seq (.reg [] [⟨some 13, none, .mv (.t 1), [], 0⟩,
    ⟨some 14, none, .bin .lss (.k 13) (.c (.i .i64 1)), [], 0⟩,
    ⟨some 15, none, .mv (.k 14), [], 0⟩,
    ⟨some 16, some (15, false), .mv (.t 1), [], 0⟩,
    ⟨some 17, some (15, false), .bin .gtr (.k 16) (.c (.i .i64 16)), [], 0⟩,
    ⟨some 18, none, .pick (.k 15) (.c (.b true)) (.k 17), [], 0⟩,
    ⟨some 19, none, .mv (.k 18), [], 0⟩,
    ⟨some 20, some (19, false), .mv (.k 0), [], 0⟩,
    ⟨some 21, some (19, false), .bin .eql (.k 20) (.c (.i .i64 4)), [], 0⟩,
    ⟨some 22, some (19, false), .mv (.k 21), [], 0⟩,
    ⟨some 23, some (22, true), .mv (.t 1), [], 0⟩,
    ⟨some 24, some (22, true), .mv (.k 1), [], 0⟩,
    ⟨some 25, some (22, true), .bin .sub (.k 24) (.c (.i .i64 1)), [], 0⟩,
    ⟨some 26, some (22, true), .bin .and (.k 23) (.k 25), [], 0⟩,
    ⟨some 27, some (22, true), .bin .neq (.k 26) (.c (.i .i64 0)), [], 0⟩,
    ⟨some 28, some (19, false), .pick (.k 22) (.k 27) (.c (.b false)), [], 0⟩,
    ⟨some 29, none, .pick (.k 19) (.c (.b true)) (.k 28), [], 0⟩,
    ⟨some 12, none, .mv (.k 29), [], 0⟩] false [12] [])
  (.cond 12 (.seq (.reg [] [⟨some 4, none, .mv (.c (.i .i64 5)), [], 0⟩] false [4] [])
  .ret)
  .skip)))))
  (.seq (.reg [] [⟨some 4, none, .mv (.c (.i .i64 0)), [], 0⟩] false [4] [])
  .ret)))⟩

def F_wire_Even : F := ⟨2, [.inl 4],
  (.seq (.reg [] [⟨some 4, none, .mv (.c (.l .o 1 [])), [], 0⟩] false [0, 1] [])
  (.seq (.reg [] [⟨some 7, none, .mv (.t 1), [], 0⟩,
    ⟨some 8, none, .mx true [.k 7, .c (.i .i64 0)], [], 0⟩,
    ⟨some 9, none, .ms 1 8 (.i .i64 0) (.t 8) (.t 8), [], 0⟩,
    ⟨some 5, none, .mv (.k 9), [], 0⟩] false [0, 1, 5] [5])
  (.seq (.seq (.reg [.thaw 5] [⟨some 10, none, .mv (.t 5), [], 0⟩,
    ⟨some 11, none, .len false (.k 10), [], 0⟩,
    ⟨some 12, none, .mv (.c (.i .i64 0)), [], 0⟩] false [0, 1, 5, 11, 12] [5])
  (.blk 0 (.loop (.seq (.reg [] [⟨some 13, none, .bin .lss (.t 12) (.t 11), [], 0⟩] false [0, 1, 5, 11, 12, 13] [5])
  (.seq (.cond 13 .skip
  (.exit 0))
  (.seq (.blk 1 (.seq (.reg [] [⟨some 14, none, .mv (.t 12), [], 0⟩,
    ⟨some 6, none, .mv (.k 14), [], 0⟩] false [0, 1, 5, 6, 11, 12] [5])
  (.seq (.reg [.thaw 5] [⟨some 15, none, .mv (.t 5), [], 0⟩,
    ⟨some 16, none, .mv (.t 6), [], 0⟩,
    ⟨some 17, none, .mv (.t 0), [], 0⟩,
    ⟨some 18, none, .mv (.t 1), [], 0⟩,
    ⟨some 19, none, .bin .quo (.k 17) (.k 18), [], 0⟩,
    ⟨some 20, none, .ia 1 none (.k 15) (.k 16), [], 0⟩,
    ⟨none, none, .st 1 (.k 20) (.k 19), [], 0⟩] false [0, 1, 5, 6, 11, 12] [5])
  (.seq (.reg [] [⟨some 21, none, .mv (.t 6), [], 0⟩,
    ⟨some 22, none, .mv (.t 0), [], 0⟩,
    ⟨some 23, none, .mv (.t 1), [], 0⟩,
    ⟨some 24, none, .bin .rem (.k 22) (.k 23), [], 0⟩,
    ⟨some 25, none, .bin .lss (.k 21) (.k 24), [], 0⟩] false [0, 1, 5, 6, 11, 12, 25] [5])
  (.cond 25 (.reg [.thaw 5] [⟨some 26, none, .mv (.t 5), [], 0⟩,
    ⟨some 27, none, .mv (.k 6), [], 0⟩,
    ⟨some 28, none, .ia 1 none (.t 26) (.t 27), [], 0⟩,
    ⟨some 29, none, .ld false 1 .cp (.k 28), [], 0⟩,
    ⟨some 30, none, .bin .add (.k 29) (.c (.i .i64 1)), [], 0⟩,
    ⟨some 31, none, .ia 1 none (.k 26) (.k 27), [], 0⟩,
    ⟨none, none, .st 1 (.k 31) (.k 30), [], 0⟩] false [0, 1, 5, 11, 12] [5])
  .skip)))))
  (.reg [] [⟨some 32, none, .bin .add (.k 12) (.c (.i .i64 1)), [], 0⟩,
    ⟨some 12, none, .mv (.k 32), [], 0⟩] false [0, 1, 5, 11, 12] [5])))))))
  (.seq (.reg [.unth 5] [⟨some 33, none, .mv (.k 5), [], 0⟩,
    ⟨some 4, none, .mv (.k 33), [], 0⟩] false [4] [])
  .ret))))⟩

def F_c_law04_Are : F := ⟨2, [.inl 4],
  (.seq (.reg [.zz 0, .zz 1] [⟨some 4, none, .mv (.c (.i .i64 0)), [], 0⟩] false [0, 1] [])
  (.seq (.seq (.reg [] [⟨some 6, none, .mv (.t 0), [], 0⟩,
    ⟨some 7, none, .len false (.k 6), [], 0⟩,
    ⟨some 8, none, .mv (.t 1), [], 0⟩,
    ⟨some 9, none, .len false (.k 8), [], 0⟩,
    ⟨some 10, none, .bin .neq (.k 7) (.k 9), [], 0⟩] false [0, 1, 10] [])
  (.cond 10 (.seq (.reg [] [⟨some 4, none, .mv (.c (.i .i64 (-1))), [], 0⟩] false [4] [])
  .ret)
  .skip))
  (.seq (.seq (.reg [] [⟨some 11, none, .mv (.t 1), [], 0⟩,
    ⟨some 12, none, .len false (.k 11), [], 0⟩,
    ⟨some 13, none, .mv (.c (.i .i64 0)), [], 0⟩] false [0, 1, 12, 13] [])
  (.blk 0 (.loop (.seq (.reg [] [⟨some 14, none, .bin .lss (.t 13) (.t 12), [], 0⟩] false [0, 1, 12, 13, 14] [])
  (.seq (.cond 14 .skip
  (.exit 0))
  (.seq (.blk 1 (.seq (.reg [] [⟨some 15, none, .mv (.t 13), [], 0⟩,
    ⟨some 5, none, .mv (.k 15), [], 0⟩] false [0, 1, 5, 12, 13] [])
  (.seq (.reg [] [⟨some 16, none, .mv (.t 0), [], 0⟩,
    ⟨some 17, none, .mv (.t 5), [0], 0⟩,
    ⟨some 18, none, .ia 2 none (.k 16) (.k 17), [], 0⟩,
    ⟨some 19, none, .ld true 2 .cp (.k 18), [], 0⟩,
    ⟨some 20, none, .mv (.t 1), [0, 1, 2, 3], 0⟩,
    ⟨some 21, none, .mv (.t 5), [0, 1, 2, 3, 4], 0⟩,
    ⟨some 22, none, .ia 2 none (.k 20) (.k 21), [0, 1, 2, 3], 0⟩,
    ⟨some 23, none, .ld true 2 .cp (.k 22), [0, 1, 2, 3], 0⟩,
    ⟨some 24, none, .call n_c_law04_Is [.k 19, .k 23], [], 0⟩,
    ⟨some 25, none, .bin .neq (.k 24) (.c (.i .i64 0)), [], 0⟩] true [0, 1, 12, 13, 25] [])
  (.cond 25 (.seq (.reg [] [⟨some 4, none, .mv (.c (.i .i64 (-1))), [], 0⟩] false [4] [])
  .ret)
  .skip))))
  (.reg [] [⟨some 26, none, .bin .add (.k 13) (.c (.i .i64 1)), [], 0⟩,
    ⟨some 13, none, .mv (.k 26), [], 0⟩] false [0, 1, 12, 13] [])))))))
  (.seq (.reg [] [⟨some 4, none, .mv (.c (.i .i64 0)), [], 0⟩] false [4] [])
  .ret))))⟩

def F_image_Shape : F := ⟨2, [.inl 4, .inl 5],
  (.seq (.reg [] [⟨some 4, none, .mv (.c (.i .i64 0)), [], 0⟩,
    ⟨some 5, none, .mv (.c (.i .i64 0)), [], 0⟩] false [0, 1] [])
  (.seq (.seq (.reg [] [⟨some 6, none, .mv (.k 0), [], 0⟩] false [1, 6] [])
  (.blk 0 (.seq (.reg [] [⟨some 8, none, .bin .eql (.t 6) (.c (.i .i64 1)), [], 0⟩,
    ⟨some 7, none, .mv (.k 8), [], 0⟩] false [1, 6, 7] [])
  (.cond 7 (.seq (.reg [] [⟨some 9, none, .mv (.k 1), [], 0⟩,
    ⟨some 4, none, .mv (.k 9), [], 0⟩,
    ⟨some 5, none, .mv (.c (.i .i64 0)), [], 0⟩] false [4, 5] [])
  .ret)
  (.seq (.reg [] [⟨some 11, none, .bin .eql (.t 6) (.c (.i .i64 2)), [], 0⟩,
    ⟨some 10, none, .mv (.k 11), [], 0⟩] false [1, 6, 10] [])
  (.cond 10 (.seq (.reg [] [⟨some 4, none, .mv (.c (.i .i64 1)), [], 0⟩,
    ⟨some 5, none, .mv (.c (.i .i64 0)), [], 0⟩] false [4, 5] [])
  .ret)
  (.seq (.reg [] [⟨some 13, none, .bin .eql (.t 6) (.c (.i .i64 3)), [], 0⟩,
    ⟨some 12, none, .mv (.k 13), [], 0⟩] false [1, 6, 12] [])
  (.cond 12 (.seq (.reg [] [⟨some 14, none, .mv (.k 1), [], 0⟩,
    ⟨some 4, none, .mv (.c (.i .i64 0)), [], 0⟩,
    ⟨some 5, none, .mv (.k 14), [], 0⟩] false [4, 5] [])
  .ret)
  (.seq (.reg [] [⟨some 16, none, .bin .eql (.k 6) (.c (.i .i64 4)), [], 0⟩,
    ⟨some 15, none, .mv (.k 16), [], 0⟩] false [15] [])
  (.cond 15 (.seq (.reg [] [⟨some 4, none, .mv (.c (.i .i64 0)), [], 0⟩,
    ⟨some 5, none, .mv (.c (.i .i64 1)), [], 0⟩] false [4, 5] [])
  .ret)
  .skip))))))))))
  (.seq (.reg [] [⟨some 4, none, .mv (.c (.i .i64 0)), [], 0⟩,
    ⟨some 5, none, .mv (.c (.i .i64 0)), [], 0⟩] false [4, 5] [])
  .ret)))⟩

def F_image_order : F := ⟨2, [.inl 4],
  (.seq (.reg [.zz 1] [⟨some 4, none, .mv (.c (.i .i64 0)), [], 0⟩] false [0, 1] [])
  (.seq (.seq (.reg [] [⟨some 6, none, .mv (.t 0), [], 0⟩,
    ⟨some 7, none, .bin .eql (.k 6) (.c (.i .i64 1)), [], 0⟩,
    ⟨some 8, none, .mv (.k 7), [], 0⟩,
    ⟨some 9, some (8, true), .mv (.t 1), [], 0⟩,
    ⟨some 10, some (8, true), .len false (.k 9), [], 0⟩,
    ⟨some 11, some (8, true), .bin .gtr (.k 10) (.c (.i .i64 62)), [], 0⟩,
    ⟨some 12, none, .pick (.k 8) (.k 11) (.c (.b false)), [], 0⟩] false [0, 1, 12] [])
  (.cond 12 (.seq (.reg [] [⟨some 4, none, .mv (.c (.i .i64 3)), [], 0⟩] false [4] [])
  .ret)
  .skip))
  (.seq (.seq (.reg [] [⟨some 5, none, .mv (.c (.i .i64 1)), [], 0⟩] false [0, 1, 5] [])
  (.blk 0 (.loop (.seq (.seq (.reg [] [⟨some 13, none, .mv (.t 0), [], 0⟩,
    ⟨some 14, none, .bin .eql (.k 13) (.c (.i .i64 1)), [], 0⟩,
    ⟨some 15, none, .mv (.k 14), [], 0⟩,
    ⟨some 16, some (15, true), .mv (.t 5), [], 0⟩,
    ⟨some 17, some (15, true), .mv (.t 1), [], 0⟩,
    ⟨some 18, some (15, true), .len false (.k 17), [], 0⟩,
    ⟨some 19, some (15, true), .bin .lss (.k 16) (.k 18), [], 0⟩,
    ⟨some 20, none, .pick (.k 15) (.k 19) (.c (.b false)), [], 0⟩] false [0, 1, 5, 20] [])
  (.cond 20 .skip
  (.exit 0)))
  (.seq (.blk 1 (.seq (.reg [] [⟨some 23, none, .mv (.t 1), [], 0⟩,
    ⟨some 24, none, .mv (.t 5), [0], 0⟩,
    ⟨some 25, none, .ia 2 none (.k 23) (.k 24), [], 0⟩,
    ⟨some 26, none, .ld true 2 .cp (.k 25), [], 0⟩,
    ⟨some 27, none, .mv (.t 1), [0, 1, 2, 3], 0⟩,
    ⟨some 28, none, .mv (.t 5), [0, 1, 2, 3, 4], 0⟩,
    ⟨some 29, none, .bin .sub (.k 28) (.c (.i .i64 1)), [0, 1, 2, 3, 4], 0⟩,
    ⟨some 30, none, .ia 2 none (.k 27) (.k 29), [0, 1, 2, 3], 0⟩,
    ⟨some 31, none, .ld true 2 .cp (.k 30), [0, 1, 2, 3], 0⟩,
    ⟨some 32, none, .call n_pile_Item_Cmp [.k 26, .k 31], [], 0⟩,
    ⟨some 33, none, .bin .lss (.k 32) (.c (.i .i64 0)), [], 0⟩] true [0, 1, 5, 33] [])
  (.cond 33 (.seq (.reg [] [⟨some 4, none, .mv (.c (.i .i64 14)), [], 0⟩] false [4] [])
  .ret)
  .skip)))
  (.reg [] [⟨some 21, none, .mv (.k 5), [], 0⟩,
    ⟨some 22, none, .bin .add (.k 21) (.c (.i .i64 1)), [], 0⟩,
    ⟨some 5, none, .mv (.k 22), [], 0⟩] false [0, 1, 5] []))))))
  (.seq (.reg [] [⟨some 4, none, .mv (.c (.i .i64 0)), [], 0⟩] false [4] [])
  .ret))))⟩

def F_engine_With : F := ⟨3, [.inl 6, .inl 7],
  (.seq (.reg [] [⟨some 6, none, .mv (.c (.nilp)), [], 0⟩,
    ⟨some 7, none, .mv (.c (.i .i64 0)), [], 0⟩] false [0, 1, 2] [])
  (.seq (.reg [] [⟨some 11, none, .mv (.t 0), [], 0⟩,
    ⟨some 12, none, .mv (.t 1), [], 0⟩,
    ⟨some 13, none, .call n_engine_machine [.k 11, .k 12], [], 0⟩,
    ⟨some 10, none, .mv (.k 13), [], 0⟩,
    ⟨some 14, none, .ex false 0 10, [], 0⟩,
    ⟨some 15, none, .ex false 1 10, [], 0⟩,
    ⟨some 8, none, .mv (.k 14), [], 0⟩,
    ⟨some 9, none, .mv (.k 15), [], 0⟩] false [0, 1, 2, 8, 9] [])
  (.seq (.seq (.reg [] [⟨some 16, none, .mv (.t 9), [], 0⟩,
    ⟨some 17, none, .bin .neq (.k 16) (.c (.i .i64 0)), [], 0⟩] false [0, 1, 2, 8, 9, 17] [])
  (.cond 17 (.seq (.reg [] [⟨some 18, none, .mv (.k 9), [], 0⟩,
    ⟨some 6, none, .mv (.c (.nilp)), [], 0⟩,
    ⟨some 7, none, .mv (.k 18), [], 0⟩] false [6, 7] [])
  .ret)
  .skip))
  (.seq (.reg [] [⟨some 19, none, .mv (.k 0), [], 0⟩,
    ⟨some 20, none, .mv (.k 1), [], 0⟩,
    ⟨some 21, none, .mv (.k 2), [], 0⟩,
    ⟨some 22, none, .mv (.k 8), [], 0⟩,
    ⟨some 23, none, .bd ([.i .i64 0, .i .i64 0, .nilp, .nili, .nilp, .nilp, .nilp, .nilp, .nilp, .nilp, .b false, .i .i64 0]) [(0, 1, .k 19), (1, 1, .k 20), (2, 1, .k 21), (3, 1, .k 22)], [], 0⟩,
    ⟨some 24, none, .bg (.k 23), [], 0⟩,
    ⟨some 6, none, .mv (.k 24), [], 0⟩,
    ⟨some 7, none, .mv (.c (.i .i64 0)), [], 0⟩] false [6, 7] [])
  .ret))))⟩

def F_real_Canon : F := ⟨1, [.inl 2],
  (.seq (.reg [] [⟨some 2, none, .mv (.c (.f .f64 0)), [], 0⟩] false [0] [])
  (.seq (.seq (.reg [] [⟨some 3, none, .mv (.t 0), [], 0⟩,
    ⟨some 4, none, .mv (.t 0), [], 0⟩,
    ⟨some 5, none, .bin .neq (.k 3) (.k 4), [], 0⟩] false [0, 5] [])
  (.cond 5 (.seq (.reg [] [⟨some 6, none, .frbits (.c (.i .u64 9221120237041090560)), [], 0⟩,
    ⟨some 2, none, .mv (.k 6), [], 0⟩] false [2] [])
  .ret)
  .skip))
  (.seq (.reg [] [⟨some 7, none, .mv (.k 0), [], 0⟩,
    ⟨some 2, none, .mv (.k 7), [], 0⟩] false [2] [])
  .ret)))⟩

def F_pile_New : F := ⟨1, [.inl 2],
  (.seq (.reg [.zz 0] [⟨some 2, none, .mv (.c (.nilp)), [], 0⟩] false [0] [])
  (.seq (.reg [] [⟨some 6, none, .bd ([.l .x 2 []]) [], [], 0⟩,
    ⟨some 7, none, .bg (.k 6), [], 0⟩,
    ⟨some 3, none, .mv (.k 7), [], 0⟩] false [0, 3] [])
  (.seq (.seq (.reg [] [⟨some 8, none, .mv (.k 0), [], 0⟩,
    ⟨some 9, none, .len false (.t 8), [], 0⟩,
    ⟨some 10, none, .mv (.c (.i .i64 0)), [], 0⟩] false [3, 8, 9, 10] [])
  (.blk 0 (.loop (.seq (.reg [] [⟨some 11, none, .bin .lss (.t 10) (.t 9), [], 0⟩] false [3, 8, 9, 10, 11] [])
  (.seq (.cond 11 .skip
  (.exit 0))
  (.seq (.blk 1 (.seq (.reg [] [⟨some 12, none, .ia 2 none (.t 8) (.t 10), [], 0⟩,
    ⟨some 13, none, .ld true 2 .cp (.k 12), [], 0⟩,
    ⟨some 5, none, .al ([.f .f64 0, .i .i64 0]), [], 0⟩,
    ⟨none, none, .st 2 (.t 5) (.k 13), [], 0⟩] false [3, 5, 8, 9, 10] [5])
  (.reg [] [⟨some 14, none, .mv (.t 3), [], 0⟩,
    ⟨some 15, none, .mv (.t 3), [0], 0⟩,
    ⟨some 16, none, .nc (.k 15), [0], 0⟩,
    ⟨some 17, none, .fa 0 (.k 16), [0], 0⟩,
    ⟨some 18, none, .ld false 1 .tk (.k 17), [0], 0⟩,
    ⟨some 19, none, .ld true 2 .cp (.k 5), [0, 1, 2, 3, 4], 0⟩,
    ⟨some 20, none, .callp n_pile_Item_Canon [.k 19], [0, 1, 2, 3, 4], 0⟩,
    ⟨some 21, none, .bs 2 1 (.a ([.f .f64 0, .i .i64 0])) [(0, .k 20)], [0, 1, 2, 3, 4], 0⟩,
    ⟨some 22, none, .app 2 16 (.k 18) (.k 21), [0], 0⟩,
    ⟨some 23, none, .nc (.k 14), [], 0⟩,
    ⟨some 24, none, .fa 0 (.k 23), [], 0⟩,
    ⟨none, none, .st 1 (.k 24) (.k 22), [], 0⟩] true [3, 8, 9, 10] [])))
  (.reg [] [⟨some 25, none, .bin .add (.k 10) (.c (.i .i64 1)), [], 0⟩,
    ⟨some 10, none, .mv (.k 25), [], 0⟩] false [3, 8, 9, 10] [])))))))
  (.seq (.reg [] [⟨some 26, none, .mv (.t 3), [], 0⟩,
    ⟨some 27, none, .nc (.k 26), [], 0⟩,
    ⟨some 28, none, .fa 0 (.k 27), [], 0⟩,
    ⟨some 29, none, .mi t_pile_items_u (.k 28), [], 0⟩,
    ⟨some 30, none, .call n_container_heap_Init [.k 29], [], 0⟩] false [3] [])
  (.seq (.reg [] [⟨some 31, none, .mv (.k 3), [], 0⟩,
    ⟨some 2, none, .mv (.k 31), [], 0⟩] false [2] [])
  .ret)))))⟩

def F_pile_Pile_All : F := ⟨1, [.inl 2],
  (.seq (.reg [] [⟨some 2, none, .mv (.c (.l .o 2 [])), [], 0⟩] false [0] [])
  (.seq (.reg [] [⟨some 7, none, .bs 2 0 (.a ([.f .f64 0, .i .i64 0])) [], [], 0⟩,
    ⟨some 8, none, .mv (.k 0), [], 0⟩,
    ⟨some 9, none, .nc (.k 8), [], 0⟩,
    ⟨some 10, none, .fa 0 (.k 9), [], 0⟩,
    ⟨some 11, none, .lda 1 (.k 10), [], 1⟩,
    ⟨some 12, none, .app 2 16 (.k 7) (.k 11), [], 0⟩,
    ⟨some 13, none, .bd ([.l .x 2 []]) [(0, 1, .k 12)], [], 0⟩,
    ⟨some 14, none, .bg (.k 13), [], 0⟩,
    ⟨some 3, none, .mv (.k 14), [], 0⟩] false [3] [])
  (.seq (.reg [] [⟨some 4, none, .mv (.c (.l .o 2 [])), [], 0⟩] false [3, 4] [])
  (.blk 0 (.loop (.blk 1 (.seq (.reg [] [⟨some 16, none, .mv (.t 3), [], 0⟩,
    ⟨some 17, none, .call n_pile_Pile_Take [.k 16], [], 0⟩,
    ⟨some 15, none, .mv (.k 17), [], 0⟩,
    ⟨some 18, none, .ex false 0 15, [], 0⟩,
    ⟨some 19, none, .ex false 1 15, [], 0⟩,
    ⟨some 5, none, .al ([.f .f64 0, .i .i64 0]), [], 0⟩,
    ⟨none, none, .st 2 (.t 5) (.k 18), [], 0⟩,
    ⟨some 6, none, .mv (.k 19), [], 0⟩] false [3, 4, 5, 6] [5])
  (.seq (.seq (.reg [] [⟨some 20, none, .mv (.k 6), [], 0⟩,
    ⟨some 21, none, .un .not (.k 20), [], 0⟩] false [3, 4, 5, 21] [5])
  (.cond 21 (.seq (.reg [] [⟨some 22, none, .mv (.k 4), [], 0⟩,
    ⟨some 2, none, .mv (.k 22), [], 0⟩] false [2] [])
  .ret)
  .skip))
  (.reg [] [⟨some 23, none, .mv (.k 4), [], 0⟩,
    ⟨some 24, none, .ld true 2 .cp (.k 5), [], 0⟩,
    ⟨some 25, none, .bs 2 1 (.a ([.f .f64 0, .i .i64 0])) [(0, .k 24)], [], 0⟩,
    ⟨some 26, none, .app 2 16 (.k 23) (.k 25), [], 1⟩,
    ⟨some 4, none, .mv (.k 26), [], 0⟩] false [3, 4] [])))))))))⟩

def F_net_New : F := ⟨1, [.inr (2, true, 3), .inl 3],
  (.seq (.reg [] [⟨some 2, none, .al ([.i .i64 0, .l .o 2 [], .l .o 1 []]), [], 0⟩,
    ⟨some 3, none, .mv (.c (.i .i64 0)), [], 0⟩] false [0, 2] [2])
  (.seq (.reg [] [⟨some 7, none, .mv (.k 0), [], 0⟩,
    ⟨some 8, none, .call n_wire_Make [.k 7], [], 0⟩,
    ⟨some 6, none, .mv (.k 8), [], 0⟩,
    ⟨some 9, none, .ex false 0 6, [], 0⟩,
    ⟨some 10, none, .ex false 1 6, [], 0⟩,
    ⟨some 4, none, .al ([.i .i64 0, .l .o 2 [], .l .o 1 []]), [], 0⟩,
    ⟨none, none, .st 3 (.t 4) (.k 9), [], 0⟩,
    ⟨some 5, none, .mv (.k 10), [], 0⟩] false [2, 4, 5] [2, 4])
  (.seq (.reg [] [⟨some 11, none, .ld true 3 .tk (.k 4), [], 0⟩,
    ⟨some 12, none, .bd ([.i .i64 0, .l .o 2 [], .l .o 1 []]) [(0, 3, .k 11)], [], 0⟩,
    ⟨some 13, none, .mv (.k 5), [], 0⟩,
    ⟨none, none, .st 3 (.t 2) (.k 12), [], 0⟩,
    ⟨some 3, none, .mv (.k 13), [], 0⟩] false [2, 3] [2])
  .ret)))⟩

def F_real_Key : F := ⟨1, [.inl 2],
  (.seq (.reg [] [⟨some 2, none, .mv (.c (.i .u64 0)), [], 0⟩] false [0] [])
  (.seq (.reg [] [⟨some 4, none, .mv (.k 0), [], 0⟩,
    ⟨some 5, none, .call n_real_Canon [.k 4], [], 0⟩,
    ⟨some 6, none, .bits (.k 5), [], 0⟩,
    ⟨some 3, none, .mv (.k 6), [], 0⟩] false [3] [])
  (.seq (.seq (.reg [] [⟨some 7, none, .mv (.t 3), [], 0⟩,
    ⟨some 8, none, .bin .and (.k 7) (.c (.i .u64 9223372036854775808)), [], 0⟩,
    ⟨some 9, none, .bin .neq (.k 8) (.c (.i .u64 0)), [], 0⟩] false [3, 9] [])
  (.cond 9 (.seq (.reg [] [⟨some 10, none, .mv (.k 3), [], 0⟩,
    ⟨some 11, none, .un .xor (.k 10), [], 0⟩,
    ⟨some 2, none, .mv (.k 11), [], 0⟩] false [2] [])
  .ret)
  .skip))
  (.seq (.reg [] [⟨some 12, none, .mv (.k 3), [], 0⟩,
    ⟨some 13, none, .bin .or (.k 12) (.c (.i .u64 9223372036854775808)), [], 0⟩,
    ⟨some 2, none, .mv (.k 13), [], 0⟩] false [2] [])
  .ret))))⟩

def F_cell_Memory_Write : F := ⟨4, [.inl 8],
  (.seq (.reg [.zz 3] [⟨some 7, none, .bx (.k 3), [], 0⟩,
    ⟨some 8, none, .mv (.c (.b false)), [], 0⟩] false [0, 1, 2, 7] [7])
  (.seq (.seq (.reg [] [⟨some 9, none, .mv (.t 1), [], 0⟩,
    ⟨some 10, none, .bin .lss (.k 9) (.c (.i .i64 0)), [], 0⟩,
    ⟨some 11, none, .mv (.k 10), [], 0⟩,
    ⟨some 12, some (11, false), .mv (.t 1), [], 0⟩,
    ⟨some 13, some (11, false), .bin .geq (.k 12) (.c (.i .i64 1000)), [], 0⟩,
    ⟨some 14, none, .pick (.k 11) (.c (.b true)) (.k 13), [], 0⟩,
    ⟨some 15, none, .mv (.k 14), [], 0⟩,
    ⟨some 16, some (15, false), .mv (.t 0), [], 0⟩,
    ⟨some 17, some (15, false), .mv (.t 1), [], 0⟩,
    ⟨some 18, some (15, false), .call n_cell_Memory_Read [.k 16, .k 17], [], 0⟩,
    ⟨some 19, some (15, false), .fd false 0 1 (.k 18), [], 0⟩,
    ⟨some 20, some (15, false), .mv (.k 2), [], 0⟩,
    ⟨some 21, some (15, false), .bin .neq (.k 19) (.k 20), [], 0⟩,
    ⟨some 22, none, .pick (.k 15) (.c (.b true)) (.k 21), [], 0⟩] false [0, 1, 7, 22] [7])
  (.cond 22 (.seq (.reg [] [⟨some 8, none, .mv (.c (.b false)), [], 0⟩] false [8] [])
  .ret)
  .skip))
  (.seq (.blk 0 (.loop (.seq (.seq (.reg [] [⟨some 23, none, .mv (.t 0), [], 0⟩,
    ⟨some 24, none, .nc (.k 23), [], 0⟩,
    ⟨some 25, none, .fa 0 (.k 24), [], 0⟩,
    ⟨some 26, none, .lda 1 (.k 25), [], 1⟩,
    ⟨some 27, none, .len false (.k 26), [], 0⟩,
    ⟨some 28, none, .mv (.t 1), [], 0⟩,
    ⟨some 29, none, .bin .leq (.k 27) (.k 28), [], 0⟩] false [0, 1, 7, 29] [7])
  (.cond 29 .skip
  (.exit 0)))
  (.blk 1 (.reg [] [⟨some 30, none, .mv (.t 0), [], 0⟩,
    ⟨some 31, none, .mv (.t 0), [], 0⟩,
    ⟨some 32, none, .nc (.k 31), [], 0⟩,
    ⟨some 33, none, .fa 0 (.k 32), [], 0⟩,
    ⟨some 34, none, .ld false 1 .tk (.k 33), [], 0⟩,
    ⟨some 35, none, .bd ([.i .u64 0, .i .i64 0, .l .o 2 []]) [], [], 0⟩,
    ⟨some 36, none, .bs 3 1 (.a ([.i .u64 0, .i .i64 0, .l .o 2 []])) [(0, .k 35)], [], 0⟩,
    ⟨some 37, none, .app 3 40 (.k 34) (.k 36), [], 0⟩,
    ⟨some 38, none, .nc (.k 30), [], 0⟩,
    ⟨some 39, none, .fa 0 (.k 38), [], 0⟩,
    ⟨none, none, .st 1 (.k 39) (.k 37), [], 0⟩] false [0, 1, 7] [7])))))
  (.seq (.reg [] [⟨some 40, none, .mv (.t 0), [], 0⟩,
    ⟨some 41, none, .nc (.t 40), [], 0⟩,
    ⟨some 42, none, .fa 1 (.k 41), [], 0⟩,
    ⟨some 43, none, .ld false 1 .cp (.k 42), [], 0⟩,
    ⟨some 44, none, .bin .add (.k 43) (.c (.i .u64 1)), [], 0⟩,
    ⟨some 45, none, .nc (.k 40), [], 0⟩,
    ⟨some 46, none, .fa 1 (.k 45), [], 0⟩,
    ⟨none, none, .st 1 (.k 46) (.k 44), [], 0⟩] false [0, 1, 7] [7])
  (.seq (.reg [] [⟨some 47, none, .mv (.t 0), [], 0⟩,
    ⟨some 48, none, .nc (.k 47), [], 0⟩,
    ⟨some 49, none, .fa 0 (.k 48), [], 0⟩,
    ⟨some 50, none, .lda 1 (.k 49), [], 0⟩,
    ⟨some 51, none, .mv (.k 1), [0, 1, 2, 3], 0⟩,
    ⟨some 52, none, .mv (.t 0), [0, 1, 2, 3, 4], 0⟩,
    ⟨some 53, none, .nc (.k 52), [0, 1, 2, 3, 4], 0⟩,
    ⟨some 54, none, .fa 1 (.k 53), [0, 1, 2, 3, 4], 0⟩,
    ⟨some 55, none, .ld false 1 .cp (.k 54), [0, 1, 2, 3, 4], 0⟩,
    ⟨some 56, none, .ld true 2 .cp (.k 7), [0, 1, 2, 3, 4, 5, 6, 7, 8], 2⟩,
    ⟨some 57, none, .callp n_cell_Value_Clone [.k 56], [0, 1, 2, 3, 4, 5, 6, 7, 8], 0⟩,
    ⟨some 58, none, .bd ([.i .u64 0, .i .i64 0, .l .o 2 []]) [(0, 1, .k 55), (1, 2, .k 57)], [0, 1, 2, 3, 4], 0⟩,
    ⟨some 59, none, .ia 3 none (.k 50) (.k 51), [], 0⟩,
    ⟨none, none, .st 3 (.k 59) (.k 58), [], 0⟩] true [] [])
  (.seq (.reg [] [⟨some 8, none, .mv (.c (.b true)), [], 0⟩] false [8] [])
  .ret))))))⟩

def F_kfifo_New : F := ⟨1, [.inr (2, true, 1), .inl 3],
  (.seq (.reg [] [⟨some 2, none, .al ([.i .i64 0]), [], 0⟩,
    ⟨some 3, none, .mv (.c (.i .i64 0)), [], 0⟩] false [0, 2] [2])
  (.seq (.seq (.reg [] [⟨some 5, none, .mv (.t 0), [], 0⟩,
    ⟨some 6, none, .call n_op_Legal [.c (.i .i64 2), .k 5], [], 0⟩,
    ⟨some 4, none, .mv (.k 6), [], 0⟩] false [0, 2, 4] [2])
  (.seq (.reg [] [⟨some 7, none, .mv (.t 4), [], 0⟩,
    ⟨some 8, none, .bin .neq (.k 7) (.c (.i .i64 0)), [], 0⟩] false [0, 2, 4, 8] [2])
  (.cond 8 (.seq (.reg [] [⟨some 9, none, .bd ([.i .i64 0]) [], [], 0⟩,
    ⟨some 10, none, .mv (.k 4), [], 0⟩,
    ⟨none, none, .st 1 (.t 2) (.k 9), [], 0⟩,
    ⟨some 3, none, .mv (.k 10), [], 0⟩] false [2, 3] [2])
  .ret)
  .skip)))
  (.seq (.reg [] [⟨some 11, none, .mv (.k 0), [], 0⟩,
    ⟨some 12, none, .bd ([.i .i64 0]) [(0, 1, .k 11)], [], 0⟩,
    ⟨none, none, .st 1 (.t 2) (.k 12), [], 0⟩,
    ⟨some 3, none, .mv (.c (.i .i64 0)), [], 0⟩] false [2, 3] [2])
  .ret)))⟩

def F_kfifo_Queue_Slot : F := ⟨3, [.inl 6],
  (.seq (.reg [] [⟨some 3, none, .bx (.k 0), [], 0⟩,
    ⟨some 6, none, .mv (.c (.i .i64 0)), [], 0⟩] false [1, 2, 3] [3])
  (.seq (.reg [] [⟨some 7, none, .mv (.k 1), [], 0⟩,
    ⟨some 8, none, .fa 0 (.k 3), [], 0⟩,
    ⟨some 9, none, .ld false 1 .cp (.k 8), [], 0⟩,
    ⟨some 10, none, .bin .mul (.k 7) (.k 9), [], 0⟩,
    ⟨some 11, none, .bin .add (.c (.i .i64 2)) (.k 10), [], 0⟩,
    ⟨some 12, none, .mv (.k 2), [], 0⟩,
    ⟨some 13, none, .bin .add (.k 11) (.k 12), [], 0⟩,
    ⟨some 6, none, .mv (.k 13), [], 0⟩] false [6] [])
  .ret))⟩

def F_wire_Plan_Pass : F := ⟨2, [.inl 4, .inl 5],
  (.seq (.reg [.zz 0, .zz 1] [⟨some 2, none, .bx (.k 0), [], 0⟩,
    ⟨some 4, none, .mv (.c (.l .o 1 [])), [], 0⟩,
    ⟨some 5, none, .mv (.c (.l .o 1 [])), [], 0⟩] false [1, 2] [2])
  (.seq (.reg [] [⟨some 14, none, .fa 0 (.t 2), [], 0⟩,
    ⟨some 15, none, .ld false 1 .cp (.k 14), [], 0⟩,
    ⟨some 16, none, .ms 1 8 (.i .i64 0) (.t 15) (.t 15), [], 0⟩,
    ⟨some 6, none, .mv (.k 16), [], 0⟩] false [1, 2, 6] [2, 6])
  (.seq (.reg [.thaw 6] [⟨some 17, none, .mv (.t 6), [], 0⟩,
    ⟨some 18, none, .mv (.k 1), [], 0⟩,
    ⟨some 19, none, .cpy 1 (.k 17) (.k 18), [], 0⟩] false [2, 6] [2, 6])
  (.seq (.reg [] [⟨some 7, none, .mv (.c (.l .o 1 [])), [], 0⟩,
    ⟨some 8, none, .mv (.c (.l .o 1 [])), [], 0⟩] false [2, 6, 7, 8] [2, 6])
  (.seq (.seq (.reg [] [⟨some 20, none, .fa 1 (.t 2), [], 0⟩,
    ⟨some 21, none, .ld false 1 .cp (.k 20), [], 0⟩,
    ⟨some 22, none, .len false (.t 21), [], 0⟩,
    ⟨some 23, none, .mv (.c (.i .i64 0)), [], 0⟩] false [2, 6, 7, 8, 21, 22, 23] [2, 6])
  (.blk 0 (.loop (.seq (.reg [] [⟨some 24, none, .bin .lss (.t 23) (.t 22), [], 0⟩] false [2, 6, 7, 8, 21, 22, 23, 24] [2, 6])
  (.seq (.cond 24 .skip
  (.exit 0))
  (.seq (.blk 1 (.seq (.reg [] [⟨some 25, none, .ia 2 none (.t 21) (.t 23), [], 0⟩,
    ⟨some 26, none, .ld true 2 .cp (.k 25), [], 0⟩,
    ⟨some 10, none, .al ([.i .i64 0, .i .i64 0]), [], 0⟩,
    ⟨none, none, .st 2 (.t 10) (.k 26), [], 0⟩] false [2, 6, 7, 8, 10, 21, 22, 23] [2, 6, 10])
  (.seq (.reg [.thaw 6] [⟨some 27, none, .mv (.t 6), [], 0⟩,
    ⟨some 28, none, .fa 0 (.t 10), [0], 0⟩,
    ⟨some 29, none, .ld false 1 .cp (.k 28), [0], 0⟩,
    ⟨some 30, none, .ia 1 none (.k 27) (.k 29), [], 0⟩,
    ⟨some 31, none, .ld false 1 .cp (.k 30), [], 0⟩,
    ⟨some 32, none, .mv (.t 6), [0, 1, 2, 3, 4], 0⟩,
    ⟨some 33, none, .fa 1 (.t 10), [0, 1, 2, 3, 4, 5], 0⟩,
    ⟨some 34, none, .ld false 1 .cp (.k 33), [0, 1, 2, 3, 4, 5], 0⟩,
    ⟨some 35, none, .ia 1 none (.k 32) (.k 34), [0, 1, 2, 3, 4], 0⟩,
    ⟨some 36, none, .ld false 1 .cp (.k 35), [0, 1, 2, 3, 4], 0⟩,
    ⟨some 37, none, .bin .add (.k 31) (.k 36), [], 0⟩,
    ⟨some 11, none, .mv (.k 37), [], 0⟩] true [2, 6, 7, 8, 10, 11, 21, 22, 23] [2, 6, 10])
  (.seq (.reg [] [⟨some 38, none, .mv (.k 7), [], 0⟩,
    ⟨some 39, none, .mv (.t 11), [], 0⟩,
    ⟨some 40, none, .bs 1 1 (.i .i64 0) [(0, .k 39)], [], 0⟩,
    ⟨some 41, none, .app 1 8 (.k 38) (.k 40), [], 1⟩,
    ⟨some 7, none, .mv (.k 41), [], 0⟩] false [2, 6, 7, 8, 10, 11, 21, 22, 23] [2, 6, 10])
  (.reg [.thaw 6] [⟨some 42, none, .mv (.t 6), [], 0⟩,
    ⟨some 43, none, .fa 0 (.t 10), [0], 0⟩,
    ⟨some 44, none, .ld false 1 .cp (.k 43), [0], 0⟩,
    ⟨some 45, none, .mv (.t 6), [0, 1, 2], 0⟩,
    ⟨some 46, none, .fa 1 (.t 10), [0, 1, 2, 3], 0⟩,
    ⟨some 47, none, .ld false 1 .cp (.k 46), [0, 1, 2, 3], 0⟩,
    ⟨some 48, none, .mv (.t 11), [0, 1, 2, 3, 4, 5], 0⟩,
    ⟨some 49, none, .mv (.t 11), [0, 1, 2, 3, 4, 5, 6], 0⟩,
    ⟨some 50, none, .bin .quo (.k 49) (.c (.i .i64 2)), [0, 1, 2, 3, 4, 5, 6], 0⟩,
    ⟨some 51, none, .bin .sub (.k 48) (.k 50), [0, 1, 2, 3, 4, 5], 0⟩,
    ⟨some 52, none, .mv (.t 11), [0, 1, 2, 3, 4, 5, 6, 7, 8, 9], 0⟩,
    ⟨some 53, none, .bin .quo (.k 52) (.c (.i .i64 2)), [0, 1, 2, 3, 4, 5, 6, 7, 8, 9], 0⟩,
    ⟨some 54, none, .ia 1 none (.k 42) (.k 44), [3, 4, 5, 10, 11], 0⟩,
    ⟨none, none, .st 1 (.k 54) (.k 51), [3, 4, 5, 10, 11], 0⟩,
    ⟨some 55, none, .ia 1 none (.k 45) (.k 47), [], 0⟩,
    ⟨none, none, .st 1 (.k 55) (.k 53), [], 0⟩] true [2, 6, 7, 8, 21, 22, 23] [2, 6])))))
  (.reg [] [⟨some 56, none, .bin .add (.k 23) (.c (.i .i64 1)), [], 0⟩,
    ⟨some 23, none, .mv (.k 56), [], 0⟩] false [2, 6, 7, 8, 21, 22, 23] [2, 6])))))))
  (.seq (.seq (.reg [] [⟨some 57, none, .fa 2 (.k 2), [], 0⟩,
    ⟨some 58, none, .ld false 1 .tk (.k 57), [], 0⟩,
    ⟨some 59, none, .len false (.t 58), [], 0⟩,
    ⟨some 60, none, .mv (.c (.i .i64 0)), [], 0⟩] false [6, 7, 8, 58, 59, 60] [6])
  (.blk 2 (.loop (.seq (.reg [] [⟨some 61, none, .bin .lss (.t 60) (.t 59), [], 0⟩] false [6, 7, 8, 58, 59, 60, 61] [6])
  (.seq (.cond 61 .skip
  (.exit 2))
  (.seq (.blk 3 (.seq (.reg [] [⟨some 62, none, .ia 1 none (.t 58) (.t 60), [], 0⟩,
    ⟨some 63, none, .ld false 1 .cp (.k 62), [], 0⟩,
    ⟨some 13, none, .mv (.k 63), [], 0⟩] false [6, 7, 8, 13, 58, 59, 60] [6])
  (.reg [.thaw 6] [⟨some 64, none, .mv (.k 8), [], 0⟩,
    ⟨some 65, none, .mv (.t 6), [], 0⟩,
    ⟨some 66, none, .mv (.k 13), [], 0⟩,
    ⟨some 67, none, .ia 1 none (.k 65) (.k 66), [], 0⟩,
    ⟨some 68, none, .ld false 1 .cp (.k 67), [], 0⟩,
    ⟨some 69, none, .bs 1 1 (.i .i64 0) [(0, .k 68)], [], 0⟩,
    ⟨some 70, none, .app 1 8 (.k 64) (.k 69), [], 1⟩,
    ⟨some 8, none, .mv (.k 70), [], 0⟩] false [6, 7, 8, 58, 59, 60] [6])))
  (.reg [] [⟨some 71, none, .bin .add (.k 60) (.c (.i .i64 1)), [], 0⟩,
    ⟨some 60, none, .mv (.k 71), [], 0⟩] false [6, 7, 8, 58, 59, 60] [6])))))))
  (.seq (.reg [] [⟨some 72, none, .mv (.k 7), [], 0⟩,
    ⟨some 73, none, .mv (.k 8), [], 0⟩,
    ⟨some 4, none, .mv (.k 72), [], 0⟩,
    ⟨some 5, none, .mv (.k 73), [], 0⟩] false [4, 5] [])
  .ret)))))))⟩

def F_c_ref04_Cmp : F := ⟨2, [.inl 4],
  (.seq (.reg [] [⟨some 2, none, .bx (.k 0), [], 0⟩,
    ⟨some 3, none, .bx (.k 1), [], 0⟩,
    ⟨some 4, none, .mv (.c (.i .i64 0)), [], 0⟩] false [2, 3] [2, 3])
  (.seq (.reg [] [⟨some 6, none, .fa 0 (.t 2), [], 0⟩,
    ⟨some 7, none, .ld false 1 .cp (.k 6), [], 0⟩,
    ⟨some 8, none, .fa 0 (.t 3), [], 0⟩,
    ⟨some 9, none, .ld false 1 .cp (.k 8), [], 0⟩,
    ⟨some 10, none, .call n_c_ref03_Cmp [.k 7, .k 9], [], 0⟩,
    ⟨some 5, none, .mv (.k 10), [], 0⟩] false [2, 3, 5] [2, 3])
  (.seq (.seq (.reg [] [⟨some 11, none, .mv (.t 5), [], 0⟩,
    ⟨some 12, none, .bin .eql (.k 11) (.c (.i .i64 0)), [], 0⟩,
    ⟨some 13, none, .mv (.k 12), [], 0⟩,
    ⟨some 14, some (13, true), .fa 1 (.t 2), [], 0⟩,
    ⟨some 15, some (13, true), .ld false 1 .cp (.k 14), [], 0⟩,
    ⟨some 16, some (13, true), .fa 1 (.t 3), [], 0⟩,
    ⟨some 17, some (13, true), .ld false 1 .cp (.k 16), [], 0⟩,
    ⟨some 18, some (13, true), .bin .lss (.k 15) (.k 17), [], 0⟩,
    ⟨some 19, none, .pick (.k 13) (.k 18) (.c (.b false)), [], 0⟩] false [2, 3, 5, 19] [2, 3])
  (.cond 19 (.reg [] [⟨some 5, none, .mv (.c (.i .i64 (-1))), [], 0⟩] false [2, 3, 5] [2, 3])
  .skip))
  (.seq (.seq (.reg [] [⟨some 20, none, .mv (.t 5), [], 0⟩,
    ⟨some 21, none, .bin .eql (.k 20) (.c (.i .i64 0)), [], 0⟩,
    ⟨some 22, none, .mv (.k 21), [], 0⟩,
    ⟨some 23, some (22, true), .fa 1 (.k 2), [], 0⟩,
    ⟨some 24, some (22, true), .ld false 1 .cp (.k 23), [], 0⟩,
    ⟨some 25, some (22, true), .fa 1 (.k 3), [], 0⟩,
    ⟨some 26, some (22, true), .ld false 1 .cp (.k 25), [], 0⟩,
    ⟨some 27, some (22, true), .bin .gtr (.k 24) (.k 26), [], 0⟩,
    ⟨some 28, none, .pick (.k 22) (.k 27) (.c (.b false)), [], 0⟩] false [5, 28] [])
  (.cond 28 (.reg [] [⟨some 5, none, .mv (.c (.i .i64 1)), [], 0⟩] false [5] [])
  .skip))
  (.seq (.reg [] [⟨some 29, none, .mv (.k 5), [], 0⟩,
    ⟨some 4, none, .mv (.k 29), [], 0⟩] false [4] [])
  .ret)))))⟩

def F_c_ref10_Merge : F := ⟨2, [.inr (4, true, 2)],
  (.seq (.reg [.zz 0, .zz 1] [⟨some 4, none, .al ([.l .o 1 [], .l .o 1 []]), [], 0⟩] false [0, 1, 4] [4])
  (.seq (.seq (.reg [] [⟨some 9, none, .mv (.t 0), [], 0⟩,
    ⟨some 10, none, .len false (.k 9), [], 0⟩,
    ⟨some 11, none, .bin .lss (.k 10) (.c (.i .i64 2)), [], 0⟩] false [0, 1, 4, 11] [4])
  (.cond 11 (.seq (.reg [] [⟨some 12, none, .mv (.t 0), [], 0⟩,
    ⟨some 13, none, .ia 1 none (.k 12) (.c (.i .i64 0)), [], 0⟩,
    ⟨some 14, none, .ld false 1 .cp (.k 13), [], 0⟩,
    ⟨some 15, none, .mv (.t 1), [0, 1, 2], 0⟩,
    ⟨some 16, none, .ia 1 none (.k 15) (.c (.i .i64 0)), [0, 1, 2], 0⟩,
    ⟨some 17, none, .ld false 1 .cp (.k 16), [0, 1, 2], 0⟩,
    ⟨some 18, none, .bs 1 2 (.i .i64 0) [(0, .k 14), (1, .k 17)], [], 1⟩,
    ⟨some 19, none, .mv (.t 0), [0, 1, 2, 3, 4, 5, 6], 0⟩,
    ⟨some 20, none, .ia 1 none (.k 19) (.c (.i .i64 0)), [0, 1, 2, 3, 4, 5, 6], 0⟩,
    ⟨some 21, none, .ld false 1 .cp (.k 20), [0, 1, 2, 3, 4, 5, 6], 0⟩,
    ⟨some 22, none, .mv (.t 1), [0, 1, 2, 3, 4, 5, 6, 7, 8, 9], 0⟩,
    ⟨some 23, none, .ia 1 none (.k 22) (.c (.i .i64 0)), [0, 1, 2, 3, 4, 5, 6, 7, 8, 9], 0⟩,
    ⟨some 24, none, .ld false 1 .cp (.k 23), [0, 1, 2, 3, 4, 5, 6, 7, 8, 9], 0⟩,
    ⟨some 25, none, .bs 1 2 (.i .i64 0) [(0, .k 21), (1, .k 24)], [0, 1, 2, 3, 4, 5, 6], 1⟩,
    ⟨some 26, none, .bd ([.l .o 1 [], .l .o 1 []]) [(0, 1, .k 18), (1, 1, .k 25)], [], 0⟩,
    ⟨none, none, .st 2 (.t 4) (.k 26), [], 0⟩] true [4] [4])
  .ret)
  .skip))
  (.seq (.reg [] [⟨some 27, none, .mv (.t 0), [], 2⟩,
    ⟨some 28, none, .call n_c_ref10_pick [.k 27, .c (.i .i64 0)], [], 2⟩,
    ⟨some 29, none, .mv (.t 1), [], 2⟩,
    ⟨some 30, none, .call n_c_ref10_pick [.k 29, .c (.i .i64 1)], [], 2⟩,
    ⟨some 31, none, .call n_c_ref10_Merge [.k 28, .k 30], [], 0⟩,
    ⟨some 5, none, .al ([.l .o 1 [], .l .o 1 []]), [], 0⟩,
    ⟨none, none, .st 2 (.t 5) (.k 31), [], 0⟩] false [0, 1, 4, 5] [4, 5])
  (.seq (.reg [] [⟨some 32, none, .mv (.k 0), [], 2⟩,
    ⟨some 33, none, .call n_c_ref10_pick [.k 32, .c (.i .i64 1)], [], 2⟩,
    ⟨some 34, none, .mv (.k 1), [], 2⟩,
    ⟨some 35, none, .call n_c_ref10_pick [.k 34, .c (.i .i64 0)], [], 2⟩,
    ⟨some 36, none, .call n_c_ref10_Merge [.k 33, .k 35], [], 0⟩,
    ⟨some 6, none, .al ([.l .o 1 [], .l .o 1 []]), [], 0⟩,
    ⟨none, none, .st 2 (.t 6) (.k 36), [], 0⟩] false [4, 5, 6] [4, 5, 6])
  (.seq (.reg [] [⟨some 37, none, .bs 1 0 (.i .i64 0) [], [], 1⟩,
    ⟨some 38, none, .fa 0 (.t 5), [0], 0⟩,
    ⟨some 39, none, .ld false 1 .cp (.k 38), [0], 0⟩,
    ⟨some 40, none, .app 1 8 (.k 37) (.k 39), [], 1⟩,
    ⟨some 41, none, .fa 0 (.t 6), [0, 1, 2, 3], 0⟩,
    ⟨some 42, none, .ld false 1 .cp (.k 41), [0, 1, 2, 3], 0⟩,
    ⟨some 43, none, .app 1 8 (.k 40) (.k 42), [], 1⟩,
    ⟨some 44, none, .bs 1 0 (.i .i64 0) [], [0, 1, 2, 3, 4, 5, 6], 1⟩,
    ⟨some 45, none, .bd ([.l .o 1 [], .l .o 1 []]) [(0, 1, .k 43), (1, 1, .k 44)], [], 0⟩,
    ⟨some 7, none, .al ([.l .o 1 [], .l .o 1 []]), [0, 1, 2, 3, 4, 5, 6, 7, 8], 0⟩,
    ⟨none, none, .st 2 (.t 7) (.k 45), [], 0⟩] true [4, 5, 6, 7] [4, 5, 6, 7])
  (.seq (.seq (.reg [] [⟨some 46, none, .fa 1 (.t 5), [], 0⟩,
    ⟨some 47, none, .ld false 1 .cp (.k 46), [], 0⟩,
    ⟨some 48, none, .len false (.k 47), [], 0⟩,
    ⟨some 49, none, .mv (.c (.i .i64 0)), [], 0⟩] false [4, 5, 6, 7, 48, 49] [4, 5, 6, 7])
  (.blk 0 (.loop (.seq (.reg [] [⟨some 50, none, .bin .lss (.t 49) (.t 48), [], 0⟩] false [4, 5, 6, 7, 48, 49, 50] [4, 5, 6, 7])
  (.seq (.cond 50 .skip
  (.exit 0))
  (.seq (.blk 1 (.seq (.reg [] [⟨some 51, none, .mv (.t 49), [], 0⟩,
    ⟨some 8, none, .mv (.k 51), [], 0⟩] false [4, 5, 6, 7, 8, 48, 49] [4, 5, 6, 7])
  (.seq (.reg [] [⟨some 52, none, .fa 0 (.t 7), [], 0⟩,
    ⟨some 53, none, .ld false 1 .tk (.k 52), [], 0⟩,
    ⟨some 54, none, .fa 1 (.t 5), [0, 1], 0⟩,
    ⟨some 55, none, .ld false 1 .cp (.k 54), [0, 1], 0⟩,
    ⟨some 56, none, .mv (.t 8), [0, 1, 2, 3], 0⟩,
    ⟨some 57, none, .ia 1 none (.k 55) (.k 56), [0, 1], 0⟩,
    ⟨some 58, none, .ld false 1 .cp (.k 57), [0, 1], 0⟩,
    ⟨some 59, none, .fa 1 (.t 6), [0, 1, 2, 3, 4, 5, 6], 0⟩,
    ⟨some 60, none, .ld false 1 .cp (.k 59), [0, 1, 2, 3, 4, 5, 6], 0⟩,
    ⟨some 61, none, .mv (.t 8), [0, 1, 2, 3, 4, 5, 6, 7, 8], 0⟩,
    ⟨some 62, none, .ia 1 none (.k 60) (.k 61), [0, 1, 2, 3, 4, 5, 6], 0⟩,
    ⟨some 63, none, .ld false 1 .cp (.k 62), [0, 1, 2, 3, 4, 5, 6], 0⟩,
    ⟨some 64, none, .bs 1 2 (.i .i64 0) [(0, .k 58), (1, .k 63)], [0, 1], 0⟩,
    ⟨some 65, none, .app 1 8 (.k 53) (.k 64), [], 1⟩,
    ⟨some 66, none, .fa 0 (.t 7), [], 0⟩,
    ⟨none, none, .st 1 (.k 66) (.k 65), [], 0⟩] true [4, 5, 6, 7, 8, 48, 49] [4, 5, 6, 7])
  (.reg [] [⟨some 67, none, .fa 1 (.t 7), [], 0⟩,
    ⟨some 68, none, .ld false 1 .tk (.k 67), [], 0⟩,
    ⟨some 69, none, .fa 1 (.t 5), [0, 1], 0⟩,
    ⟨some 70, none, .ld false 1 .cp (.k 69), [0, 1], 0⟩,
    ⟨some 71, none, .mv (.t 8), [0, 1, 2, 3], 0⟩,
    ⟨some 72, none, .ia 1 none (.k 70) (.k 71), [0, 1], 0⟩,
    ⟨some 73, none, .ld false 1 .cp (.k 72), [0, 1], 0⟩,
    ⟨some 74, none, .fa 1 (.t 6), [0, 1, 2, 3, 4, 5, 6], 0⟩,
    ⟨some 75, none, .ld false 1 .cp (.k 74), [0, 1, 2, 3, 4, 5, 6], 0⟩,
    ⟨some 76, none, .mv (.t 8), [0, 1, 2, 3, 4, 5, 6, 7, 8], 0⟩,
    ⟨some 77, none, .ia 1 none (.k 75) (.k 76), [0, 1, 2, 3, 4, 5, 6], 0⟩,
    ⟨some 78, none, .ld false 1 .cp (.k 77), [0, 1, 2, 3, 4, 5, 6], 0⟩,
    ⟨some 79, none, .bs 1 2 (.i .i64 0) [(0, .k 73), (1, .k 78)], [0, 1], 0⟩,
    ⟨some 80, none, .app 1 8 (.k 68) (.k 79), [], 1⟩,
    ⟨some 81, none, .fa 1 (.t 7), [], 0⟩,
    ⟨none, none, .st 1 (.k 81) (.k 80), [], 0⟩] true [4, 5, 6, 7, 48, 49] [4, 5, 6, 7]))))
  (.reg [] [⟨some 82, none, .bin .add (.k 49) (.c (.i .i64 1)), [], 0⟩,
    ⟨some 49, none, .mv (.k 82), [], 0⟩] false [4, 5, 6, 7, 48, 49] [4, 5, 6, 7])))))))
  (.seq (.reg [] [⟨some 83, none, .ld true 2 .tk (.k 7), [], 0⟩,
    ⟨none, none, .st 2 (.t 4) (.k 83), [], 0⟩] false [4] [4])
  .ret)))))))⟩

def F_c_ref03_Bits : F := ⟨1, [.inl 2],
  (.seq (.reg [] [⟨some 2, none, .mv (.c (.i .u64 0)), [], 0⟩] false [0] [])
  (.seq (.seq (.reg [] [⟨some 3, none, .mv (.t 0), [], 0⟩,
    ⟨some 4, none, .bin .rem (.k 3) (.c (.i .u64 9223372036854775808)), [], 0⟩,
    ⟨some 5, none, .bin .gtr (.k 4) (.c (.i .u64 9218868437227405312)), [], 0⟩] false [0, 5] [])
  (.cond 5 (.seq (.reg [] [⟨some 2, none, .mv (.c (.i .u64 9221120237041090560)), [], 0⟩] false [2] [])
  .ret)
  .skip))
  (.seq (.reg [] [⟨some 6, none, .mv (.k 0), [], 0⟩,
    ⟨some 2, none, .mv (.k 6), [], 0⟩] false [2] [])
  .ret)))⟩

def F_cell_Value_Clone : F := ⟨1, [.inr (2, true, 2)],
  (.seq (.reg [.zz 0] [⟨some 1, none, .bx (.k 0), [], 0⟩,
    ⟨some 2, none, .al ([.i .i64 0, .l .o 2 []]), [], 0⟩] false [1, 2] [1, 2])
  (.seq (.reg [] [⟨some 3, none, .fa 0 (.t 1), [], 0⟩,
    ⟨some 4, none, .ld false 1 .cp (.k 3), [], 0⟩,
    ⟨some 5, none, .fa 1 (.t 1), [0, 1], 0⟩,
    ⟨some 6, none, .ld false 1 .cp (.k 5), [0, 1], 0⟩,
    ⟨some 7, none, .app 2 16 (.c (.l .o 2 [])) (.k 6), [0, 1], 1⟩,
    ⟨some 8, none, .bd ([.i .i64 0, .l .o 2 []]) [(0, 1, .k 4), (1, 1, .k 7)], [], 0⟩,
    ⟨none, none, .st 2 (.t 2) (.k 8), [], 0⟩] true [2] [2])
  .ret))⟩

def F_c_law04_Is : F := ⟨2, [.inl 4],
  (.seq (.reg [] [⟨some 2, none, .bx (.k 0), [], 0⟩,
    ⟨some 3, none, .bx (.k 1), [], 0⟩,
    ⟨some 4, none, .mv (.c (.i .i64 0)), [], 0⟩] false [2, 3] [2, 3])
  (.seq (.seq (.reg [] [⟨some 5, none, .fa 0 (.t 2), [], 0⟩,
    ⟨some 6, none, .ld false 1 .cp (.k 5), [], 0⟩,
    ⟨some 7, none, .bits (.k 6), [], 0⟩,
    ⟨some 8, none, .fa 0 (.t 3), [0, 1, 2], 0⟩,
    ⟨some 9, none, .ld false 1 .cp (.k 8), [0, 1, 2], 0⟩,
    ⟨some 10, none, .bin .neq (.k 7) (.k 9), [], 0⟩,
    ⟨some 11, none, .mv (.k 10), [], 0⟩,
    ⟨some 12, some (11, false), .fa 1 (.t 2), [], 0⟩,
    ⟨some 13, some (11, false), .ld false 1 .cp (.k 12), [], 0⟩,
    ⟨some 14, some (11, false), .fa 1 (.t 3), [7, 8], 0⟩,
    ⟨some 15, some (11, false), .ld false 1 .cp (.k 14), [7, 8], 0⟩,
    ⟨some 16, some (11, false), .bin .neq (.k 13) (.k 15), [], 0⟩,
    ⟨some 17, none, .pick (.t 11) (.c (.b true)) (.k 16), [], 0⟩] true [17] [])
  (.cond 17 (.seq (.reg [] [⟨some 4, none, .mv (.c (.i .i64 (-1))), [], 0⟩] false [4] [])
  .ret)
  .skip))
  (.seq (.reg [] [⟨some 4, none, .mv (.c (.i .i64 0)), [], 0⟩] false [4] [])
  .ret)))⟩

def F_engine_machine : F := ⟨2, [.inl 4, .inl 5],
  (.seq (.reg [] [⟨some 4, none, .mv (.c (.nili)), [], 0⟩,
    ⟨some 5, none, .mv (.c (.i .i64 0)), [], 0⟩] false [0, 1] [])
  (.seq (.seq (.reg [] [⟨some 6, none, .mv (.k 0), [], 0⟩] false [1, 6] [])
  (.blk 0 (.seq (.reg [] [⟨some 8, none, .bin .eql (.t 6) (.c (.i .i64 1)), [], 0⟩,
    ⟨some 7, none, .mv (.k 8), [], 0⟩] false [1, 6, 7] [])
  (.cond 7 (.seq (.reg [] [⟨some 9, none, .mv (.k 1), [], 0⟩,
    ⟨some 10, none, .call n_multi_New [.k 9], [], 0⟩,
    ⟨some 11, none, .ex false 0 10, [], 0⟩,
    ⟨some 12, none, .ex false 1 10, [], 0⟩,
    ⟨some 13, none, .mi t_multi_Multi (.k 11), [], 0⟩,
    ⟨some 4, none, .mv (.k 13), [], 0⟩,
    ⟨some 5, none, .mv (.k 12), [], 0⟩] false [4, 5] [])
  .ret)
  (.seq (.reg [] [⟨some 15, none, .bin .eql (.t 6) (.c (.i .i64 2)), [], 0⟩,
    ⟨some 14, none, .mv (.k 15), [], 0⟩] false [1, 6, 14] [])
  (.cond 14 (.seq (.reg [] [⟨some 16, none, .mv (.k 1), [], 0⟩,
    ⟨some 17, none, .call n_kfifo_New [.k 16], [], 0⟩,
    ⟨some 18, none, .ex false 0 17, [], 0⟩,
    ⟨some 19, none, .ex false 1 17, [], 0⟩,
    ⟨some 20, none, .mi t_kfifo_Queue (.k 18), [], 0⟩,
    ⟨some 4, none, .mv (.k 20), [], 0⟩,
    ⟨some 5, none, .mv (.k 19), [], 0⟩] false [4, 5] [])
  .ret)
  (.seq (.reg [] [⟨some 22, none, .bin .eql (.t 6) (.c (.i .i64 3)), [], 0⟩,
    ⟨some 21, none, .mv (.k 22), [], 0⟩] false [1, 6, 21] [])
  (.cond 21 (.seq (.reg [] [⟨some 23, none, .mv (.k 1), [], 0⟩,
    ⟨some 24, none, .call n_tally_New [.k 23], [], 0⟩,
    ⟨some 25, none, .ex false 0 24, [], 0⟩,
    ⟨some 26, none, .ex false 1 24, [], 0⟩,
    ⟨some 27, none, .mi t_tally_Tally (.k 25), [], 0⟩,
    ⟨some 4, none, .mv (.k 27), [], 0⟩,
    ⟨some 5, none, .mv (.k 26), [], 0⟩] false [4, 5] [])
  .ret)
  (.seq (.reg [] [⟨some 29, none, .bin .eql (.k 6) (.c (.i .i64 4)), [], 0⟩,
    ⟨some 28, none, .mv (.k 29), [], 0⟩] false [1, 28] [])
  (.cond 28 (.seq (.reg [] [⟨some 30, none, .mv (.k 1), [], 0⟩,
    ⟨some 31, none, .callp n_net_New [.k 30], [], 0⟩,
    ⟨some 32, none, .ex false 0 31, [], 0⟩,
    ⟨some 33, none, .ex false 1 31, [], 0⟩,
    ⟨some 34, none, .mi t_net_Net (.k 32), [], 0⟩,
    ⟨some 4, none, .mv (.k 34), [], 0⟩,
    ⟨some 5, none, .mv (.k 33), [], 0⟩] false [4, 5] [])
  .ret)
  .skip))))))))))
  (.seq (.reg [] [⟨some 4, none, .mv (.c (.nili)), [], 0⟩,
    ⟨some 5, none, .mv (.c (.i .i64 6)), [], 0⟩] false [4, 5] [])
  .ret)))⟩

def F_container_heap_Init : F := ⟨1, [],
  (.seq (.reg [] [⟨some 4, none, .mv (.t 0), [], 0⟩,
    ⟨some 5, none, .inv "Len" (.k 4) [], [], 0⟩,
    ⟨some 2, none, .mv (.k 5), [], 0⟩] false [0, 2] [])
  (.seq (.reg [] [⟨some 6, none, .mv (.t 2), [], 0⟩,
    ⟨some 7, none, .bin .quo (.k 6) (.c (.i .i64 2)), [], 0⟩,
    ⟨some 8, none, .bin .sub (.k 7) (.c (.i .i64 1)), [], 0⟩,
    ⟨some 3, none, .mv (.k 8), [], 0⟩] false [0, 2, 3] [])
  (.blk 0 (.loop (.seq (.seq (.reg [] [⟨some 9, none, .mv (.t 3), [], 0⟩,
    ⟨some 10, none, .bin .geq (.k 9) (.c (.i .i64 0)), [], 0⟩] false [0, 2, 3, 10] [])
  (.cond 10 .skip
  (.exit 0)))
  (.seq (.blk 1 (.reg [] [⟨some 13, none, .mv (.t 0), [], 0⟩,
    ⟨some 14, none, .mv (.t 3), [], 0⟩,
    ⟨some 15, none, .mv (.t 2), [], 0⟩,
    ⟨some 16, none, .call n_container_heap_down [.k 13, .k 14, .k 15], [], 0⟩] false [0, 2, 3] []))
  (.reg [] [⟨some 11, none, .mv (.k 3), [], 0⟩,
    ⟨some 12, none, .bin .sub (.k 11) (.c (.i .i64 1)), [], 0⟩,
    ⟨some 3, none, .mv (.k 12), [], 0⟩] false [0, 2, 3] [])))))))⟩

def F_pile_Pile_Take : F := ⟨1, [.inr (2, true, 2), .inl 3],
  (.seq (.reg [] [⟨some 2, none, .al ([.f .f64 0, .i .i64 0]), [], 0⟩,
    ⟨some 3, none, .mv (.c (.b false)), [], 0⟩] false [0, 2] [2])
  (.seq (.seq (.reg [] [⟨some 4, none, .mv (.t 0), [], 0⟩,
    ⟨some 5, none, .nc (.k 4), [], 0⟩,
    ⟨some 6, none, .fa 0 (.k 5), [], 0⟩,
    ⟨some 7, none, .lda 1 (.k 6), [], 1⟩,
    ⟨some 8, none, .len false (.k 7), [], 0⟩,
    ⟨some 9, none, .bin .eql (.k 8) (.c (.i .i64 0)), [], 0⟩] false [0, 2, 9] [2])
  (.cond 9 (.seq (.reg [] [⟨some 10, none, .bd ([.f .f64 0, .i .i64 0]) [], [], 0⟩,
    ⟨none, none, .st 2 (.t 2) (.k 10), [], 0⟩,
    ⟨some 3, none, .mv (.c (.b false)), [], 0⟩] false [2, 3] [2])
  .ret)
  .skip))
  (.seq (.reg [] [⟨some 11, none, .mv (.k 0), [], 0⟩,
    ⟨some 12, none, .nc (.k 11), [], 0⟩,
    ⟨some 13, none, .fa 0 (.k 12), [], 0⟩,
    ⟨some 14, none, .mi t_pile_items_u (.k 13), [], 0⟩,
    ⟨some 15, none, .call n_container_heap_Pop [.k 14], [], 0⟩,
    ⟨some 16, none, .ta t_pile_Item (.k 15), [], 0⟩,
    ⟨none, none, .st 2 (.t 2) (.k 16), [], 0⟩,
    ⟨some 3, none, .mv (.c (.b true)), [], 0⟩] false [2, 3] [2])
  .ret)))⟩

def F_wire_Make : F := ⟨1, [.inr (2, true, 3), .inl 3],
  (.seq (.reg [] [⟨some 2, none, .al ([.i .i64 0, .l .o 2 [], .l .o 1 []]), [], 0⟩,
    ⟨some 3, none, .mv (.c (.i .i64 0)), [], 0⟩] false [0, 2] [2])
  (.seq (.seq (.reg [] [⟨some 8, none, .mv (.t 0), [], 0⟩,
    ⟨some 9, none, .call n_op_Legal [.c (.i .i64 4), .k 8], [], 0⟩,
    ⟨some 4, none, .mv (.k 9), [], 0⟩] false [0, 2, 4] [2])
  (.seq (.reg [] [⟨some 10, none, .mv (.t 4), [], 0⟩,
    ⟨some 11, none, .bin .neq (.k 10) (.c (.i .i64 0)), [], 0⟩] false [0, 2, 4, 11] [2])
  (.cond 11 (.seq (.reg [] [⟨some 12, none, .bd ([.i .i64 0, .l .o 2 [], .l .o 1 []]) [], [], 0⟩,
    ⟨some 13, none, .mv (.k 4), [], 0⟩,
    ⟨none, none, .st 3 (.t 2) (.k 12), [], 0⟩,
    ⟨some 3, none, .mv (.k 13), [], 0⟩] false [2, 3] [2])
  .ret)
  .skip)))
  (.seq (.reg [] [⟨some 14, none, .mv (.t 0), [], 0⟩,
    ⟨some 15, none, .bd ([.i .i64 0, .l .o 2 [], .l .o 1 []]) [(0, 1, .k 14)], [], 0⟩,
    ⟨some 5, none, .ag ([.i .i64 0, .l .o 2 [], .l .o 1 []]), [], 0⟩,
    ⟨none, none, .st 3 (.t 5) (.k 15), [], 0⟩] false [0, 2, 5] [2])
  (.seq (.reg [] [⟨some 16, none, .mv (.k 0), [], 0⟩,
    ⟨some 17, none, .ms 1 8 (.i .i64 0) (.t 16) (.t 16), [], 0⟩,
    ⟨some 6, none, .mv (.k 17), [], 0⟩] false [2, 5, 6] [2, 6])
  (.seq (.seq (.reg [.thaw 6] [⟨some 18, none, .mv (.t 6), [], 0⟩,
    ⟨some 19, none, .len false (.k 18), [], 0⟩,
    ⟨some 20, none, .mv (.c (.i .i64 0)), [], 0⟩] false [2, 5, 6, 19, 20] [2, 6])
  (.blk 0 (.loop (.seq (.reg [] [⟨some 21, none, .bin .lss (.t 20) (.t 19), [], 0⟩] false [2, 5, 6, 19, 20, 21] [2, 6])
  (.seq (.cond 21 .skip
  (.exit 0))
  (.seq (.blk 1 (.seq (.reg [] [⟨some 22, none, .mv (.t 20), [], 0⟩,
    ⟨some 7, none, .mv (.k 22), [], 0⟩] false [2, 5, 6, 7, 19, 20] [2, 6])
  (.reg [.thaw 6] [⟨some 23, none, .mv (.t 6), [], 0⟩,
    ⟨some 24, none, .mv (.t 7), [], 0⟩,
    ⟨some 25, none, .mv (.k 7), [], 0⟩,
    ⟨some 26, none, .ia 1 none (.k 23) (.k 24), [], 0⟩,
    ⟨none, none, .st 1 (.k 26) (.k 25), [], 0⟩] false [2, 5, 6, 19, 20] [2, 6])))
  (.reg [] [⟨some 27, none, .bin .add (.k 20) (.c (.i .i64 1)), [], 0⟩,
    ⟨some 20, none, .mv (.k 27), [], 0⟩] false [2, 5, 6, 19, 20] [2, 6])))))))
  (.seq (.reg [.unth 6] [⟨some 28, none, .mv (.k 6), [], 2⟩,
    ⟨some 29, none, .call n_wire_Plan_count [.t 5, .k 28], [], 0⟩,
    ⟨some 30, none, .fa 2 (.t 5), [], 0⟩,
    ⟨none, none, .st 1 (.k 30) (.k 29), [], 0⟩] false [2, 5] [2])
  (.seq (.reg [] [⟨some 31, none, .ld true 3 .cp (.k 5), [], 0⟩,
    ⟨none, none, .st 3 (.t 2) (.k 31), [], 0⟩,
    ⟨some 3, none, .mv (.c (.i .i64 0)), [], 0⟩] false [2, 3] [2])
  .ret)))))))⟩

def F_c_ref03_Cmp : F := ⟨2, [.inl 4],
  (.seq (.reg [] [⟨some 4, none, .mv (.c (.i .i64 0)), [], 0⟩] false [0, 1] [])
  (.seq (.seq (.reg [] [⟨some 5, none, .mv (.t 0), [], 0⟩,
    ⟨some 6, none, .call n_c_ref03_Key [.k 5], [], 0⟩,
    ⟨some 7, none, .mv (.t 1), [], 0⟩,
    ⟨some 8, none, .call n_c_ref03_Key [.k 7], [], 0⟩,
    ⟨some 9, none, .bin .lss (.k 6) (.k 8), [], 0⟩] false [0, 1, 9] [])
  (.cond 9 (.seq (.reg [] [⟨some 4, none, .mv (.c (.i .i64 (-1))), [], 0⟩] false [4] [])
  .ret)
  .skip))
  (.seq (.seq (.reg [] [⟨some 10, none, .mv (.k 0), [], 0⟩,
    ⟨some 11, none, .call n_c_ref03_Key [.k 10], [], 0⟩,
    ⟨some 12, none, .mv (.k 1), [], 0⟩,
    ⟨some 13, none, .call n_c_ref03_Key [.k 12], [], 0⟩,
    ⟨some 14, none, .bin .gtr (.k 11) (.k 13), [], 0⟩] false [14] [])
  (.cond 14 (.seq (.reg [] [⟨some 4, none, .mv (.c (.i .i64 1)), [], 0⟩] false [4] [])
  .ret)
  .skip))
  (.seq (.reg [] [⟨some 4, none, .mv (.c (.i .i64 0)), [], 0⟩] false [4] [])
  .ret))))⟩

def F_c_ref10_pick : F := ⟨2, [.inl 4],
  (.seq (.reg [.zz 0] [⟨some 4, none, .mv (.c (.l .o 1 [])), [], 0⟩] false [0, 1] [])
  (.seq (.reg [] [⟨some 7, none, .bs 1 0 (.i .i64 0) [], [], 1⟩,
    ⟨some 5, none, .mv (.k 7), [], 0⟩] false [0, 1, 5] [])
  (.seq (.seq (.reg [] [⟨some 8, none, .mv (.t 0), [], 0⟩,
    ⟨some 9, none, .len false (.k 8), [], 0⟩,
    ⟨some 10, none, .mv (.c (.i .i64 0)), [], 0⟩] false [0, 1, 5, 9, 10] [])
  (.blk 0 (.loop (.seq (.reg [] [⟨some 11, none, .bin .lss (.t 10) (.t 9), [], 0⟩] false [0, 1, 5, 9, 10, 11] [])
  (.seq (.cond 11 .skip
  (.exit 0))
  (.seq (.blk 1 (.seq (.reg [] [⟨some 12, none, .mv (.t 10), [], 0⟩,
    ⟨some 6, none, .mv (.k 12), [], 0⟩] false [0, 1, 5, 6, 9, 10] [])
  (.seq (.reg [] [⟨some 13, none, .mv (.t 6), [], 0⟩,
    ⟨some 14, none, .bin .rem (.k 13) (.c (.i .i64 2)), [], 0⟩,
    ⟨some 15, none, .mv (.t 1), [], 0⟩,
    ⟨some 16, none, .bin .eql (.k 14) (.k 15), [], 0⟩] false [0, 1, 5, 6, 9, 10, 16] [])
  (.cond 16 (.reg [] [⟨some 17, none, .mv (.k 5), [], 0⟩,
    ⟨some 18, none, .mv (.t 0), [], 0⟩,
    ⟨some 19, none, .mv (.k 6), [], 0⟩,
    ⟨some 20, none, .ia 1 none (.k 18) (.k 19), [], 0⟩,
    ⟨some 21, none, .ld false 1 .cp (.k 20), [], 0⟩,
    ⟨some 22, none, .bs 1 1 (.i .i64 0) [(0, .k 21)], [], 0⟩,
    ⟨some 23, none, .app 1 8 (.k 17) (.k 22), [], 1⟩,
    ⟨some 5, none, .mv (.k 23), [], 0⟩] false [0, 1, 5, 9, 10] [])
  .skip))))
  (.reg [] [⟨some 24, none, .bin .add (.k 10) (.c (.i .i64 1)), [], 0⟩,
    ⟨some 10, none, .mv (.k 24), [], 0⟩] false [0, 1, 5, 9, 10] [])))))))
  (.seq (.reg [] [⟨some 25, none, .mv (.k 5), [], 0⟩,
    ⟨some 4, none, .mv (.k 25), [], 0⟩] false [4] [])
  .ret))))⟩

def F_multi_New : F := ⟨1, [.inr (2, true, 1), .inl 3],
  (.seq (.reg [] [⟨some 2, none, .al ([.i .i64 0]), [], 0⟩,
    ⟨some 3, none, .mv (.c (.i .i64 0)), [], 0⟩] false [0, 2] [2])
  (.seq (.seq (.reg [] [⟨some 5, none, .mv (.t 0), [], 0⟩,
    ⟨some 6, none, .call n_op_Legal [.c (.i .i64 1), .k 5], [], 0⟩,
    ⟨some 4, none, .mv (.k 6), [], 0⟩] false [0, 2, 4] [2])
  (.seq (.reg [] [⟨some 7, none, .mv (.t 4), [], 0⟩,
    ⟨some 8, none, .bin .neq (.k 7) (.c (.i .i64 0)), [], 0⟩] false [0, 2, 4, 8] [2])
  (.cond 8 (.seq (.reg [] [⟨some 9, none, .bd ([.i .i64 0]) [], [], 0⟩,
    ⟨some 10, none, .mv (.k 4), [], 0⟩,
    ⟨none, none, .st 1 (.t 2) (.k 9), [], 0⟩,
    ⟨some 3, none, .mv (.k 10), [], 0⟩] false [2, 3] [2])
  .ret)
  .skip)))
  (.seq (.reg [] [⟨some 11, none, .mv (.k 0), [], 0⟩,
    ⟨some 12, none, .bd ([.i .i64 0]) [(0, 1, .k 11)], [], 0⟩,
    ⟨none, none, .st 1 (.t 2) (.k 12), [], 0⟩,
    ⟨some 3, none, .mv (.c (.i .i64 0)), [], 0⟩] false [2, 3] [2])
  .ret)))⟩

def F_tally_New : F := ⟨1, [.inr (2, true, 1), .inl 3],
  (.seq (.reg [] [⟨some 2, none, .al ([.i .i64 0]), [], 0⟩,
    ⟨some 3, none, .mv (.c (.i .i64 0)), [], 0⟩] false [0, 2] [2])
  (.seq (.seq (.reg [] [⟨some 5, none, .mv (.t 0), [], 0⟩,
    ⟨some 6, none, .call n_op_Legal [.c (.i .i64 3), .k 5], [], 0⟩,
    ⟨some 4, none, .mv (.k 6), [], 0⟩] false [0, 2, 4] [2])
  (.seq (.reg [] [⟨some 7, none, .mv (.t 4), [], 0⟩,
    ⟨some 8, none, .bin .neq (.k 7) (.c (.i .i64 0)), [], 0⟩] false [0, 2, 4, 8] [2])
  (.cond 8 (.seq (.reg [] [⟨some 9, none, .bd ([.i .i64 0]) [], [], 0⟩,
    ⟨some 10, none, .mv (.k 4), [], 0⟩,
    ⟨none, none, .st 1 (.t 2) (.k 9), [], 0⟩,
    ⟨some 3, none, .mv (.k 10), [], 0⟩] false [2, 3] [2])
  .ret)
  .skip)))
  (.seq (.reg [] [⟨some 11, none, .mv (.k 0), [], 0⟩,
    ⟨some 12, none, .bd ([.i .i64 0]) [(0, 1, .k 11)], [], 0⟩,
    ⟨none, none, .st 1 (.t 2) (.k 12), [], 0⟩,
    ⟨some 3, none, .mv (.c (.i .i64 0)), [], 0⟩] false [2, 3] [2])
  .ret)))⟩

def F_container_heap_down : F := ⟨3, [.inl 6],
  (.seq (.reg [] [⟨some 6, none, .mv (.c (.b false)), [], 0⟩] false [0, 1, 2] [])
  (.seq (.reg [] [⟨some 11, none, .mv (.t 1), [], 0⟩,
    ⟨some 7, none, .mv (.k 11), [], 0⟩] false [0, 1, 2, 7] [])
  (.seq (.blk 0 (.loop (.blk 1 (.seq (.reg [] [⟨some 12, none, .mv (.t 7), [], 0⟩,
    ⟨some 13, none, .bin .mul (.c (.i .i64 2)) (.k 12), [], 0⟩,
    ⟨some 14, none, .bin .add (.k 13) (.c (.i .i64 1)), [], 0⟩,
    ⟨some 8, none, .mv (.k 14), [], 0⟩] false [0, 1, 2, 7, 8] [])
  (.seq (.seq (.reg [] [⟨some 15, none, .mv (.t 8), [], 0⟩,
    ⟨some 16, none, .mv (.t 2), [], 0⟩,
    ⟨some 17, none, .bin .geq (.k 15) (.k 16), [], 0⟩,
    ⟨some 18, none, .mv (.k 17), [], 0⟩,
    ⟨some 19, some (18, false), .mv (.t 8), [], 0⟩,
    ⟨some 20, some (18, false), .bin .lss (.k 19) (.c (.i .i64 0)), [], 0⟩,
    ⟨some 21, none, .pick (.k 18) (.c (.b true)) (.k 20), [], 0⟩] false [0, 1, 2, 7, 8, 21] [])
  (.cond 21 (.exit 0)
  .skip))
  (.seq (.reg [] [⟨some 22, none, .mv (.t 8), [], 0⟩,
    ⟨some 9, none, .mv (.k 22), [], 0⟩] false [0, 1, 2, 7, 8, 9] [])
  (.seq (.seq (.reg [] [⟨some 23, none, .mv (.t 8), [], 0⟩,
    ⟨some 24, none, .bin .add (.k 23) (.c (.i .i64 1)), [], 0⟩,
    ⟨some 10, none, .mv (.k 24), [], 0⟩] false [0, 1, 2, 7, 8, 9, 10] [])
  (.seq (.reg [] [⟨some 25, none, .mv (.t 10), [], 0⟩,
    ⟨some 26, none, .mv (.t 2), [], 0⟩,
    ⟨some 27, none, .bin .lss (.k 25) (.k 26), [], 0⟩,
    ⟨some 28, none, .mv (.k 27), [], 0⟩,
    ⟨some 29, some (28, true), .mv (.t 0), [], 0⟩,
    ⟨some 30, some (28, true), .mv (.t 10), [], 0⟩,
    ⟨some 31, some (28, true), .mv (.k 8), [], 0⟩,
    ⟨some 32, some (28, true), .inv "Less" (.k 29) [.k 30, .k 31], [], 0⟩,
    ⟨some 33, none, .pick (.k 28) (.k 32) (.c (.b false)), [], 0⟩] false [0, 1, 2, 7, 9, 10, 33] [])
  (.cond 33 (.reg [] [⟨some 34, none, .mv (.k 10), [], 0⟩,
    ⟨some 9, none, .mv (.k 34), [], 0⟩] false [0, 1, 2, 7, 9] [])
  .skip)))
  (.seq (.seq (.reg [] [⟨some 35, none, .mv (.t 0), [], 0⟩,
    ⟨some 36, none, .mv (.t 9), [], 0⟩,
    ⟨some 37, none, .mv (.t 7), [], 0⟩,
    ⟨some 38, none, .inv "Less" (.k 35) [.k 36, .k 37], [], 0⟩,
    ⟨some 39, none, .un .not (.k 38), [], 0⟩] false [0, 1, 2, 7, 9, 39] [])
  (.cond 39 (.exit 0)
  .skip))
  (.seq (.reg [] [⟨some 40, none, .mv (.t 0), [], 0⟩,
    ⟨some 41, none, .mv (.k 7), [], 0⟩,
    ⟨some 42, none, .mv (.t 9), [], 0⟩,
    ⟨some 43, none, .inv "Swap" (.k 40) [.k 41, .k 42], [], 0⟩] false [0, 1, 2, 9] [])
  (.reg [] [⟨some 44, none, .mv (.k 9), [], 0⟩,
    ⟨some 7, none, .mv (.k 44), [], 0⟩] false [0, 1, 2, 7] []))))))))))
  (.seq (.reg [] [⟨some 45, none, .mv (.k 7), [], 0⟩,
    ⟨some 46, none, .mv (.k 1), [], 0⟩,
    ⟨some 47, none, .bin .gtr (.k 45) (.k 46), [], 0⟩,
    ⟨some 6, none, .mv (.k 47), [], 0⟩] false [6] [])
  .ret))))⟩

def F_container_heap_Pop : F := ⟨1, [.inl 2],
  (.seq (.reg [] [⟨some 2, none, .mv (.c (.nili)), [], 0⟩] false [0] [])
  (.seq (.reg [] [⟨some 4, none, .mv (.t 0), [], 0⟩,
    ⟨some 5, none, .inv "Len" (.k 4) [], [], 0⟩,
    ⟨some 6, none, .bin .sub (.k 5) (.c (.i .i64 1)), [], 0⟩,
    ⟨some 3, none, .mv (.k 6), [], 0⟩] false [0, 3] [])
  (.seq (.reg [] [⟨some 7, none, .mv (.t 0), [], 0⟩,
    ⟨some 8, none, .mv (.t 3), [], 0⟩,
    ⟨some 9, none, .inv "Swap" (.k 7) [.c (.i .i64 0), .k 8], [], 0⟩] false [0, 3] [])
  (.seq (.reg [] [⟨some 10, none, .mv (.t 0), [], 0⟩,
    ⟨some 11, none, .mv (.k 3), [], 0⟩,
    ⟨some 12, none, .call n_container_heap_down [.k 10, .c (.i .i64 0), .k 11], [], 0⟩] false [0] [])
  (.seq (.reg [] [⟨some 13, none, .mv (.k 0), [], 0⟩,
    ⟨some 14, none, .inv "Pop" (.k 13) [], [], 0⟩,
    ⟨some 2, none, .mv (.k 14), [], 0⟩] false [2] [])
  .ret)))))⟩

def F_wire_Plan_count : F := ⟨2, [.inl 4],
  (.seq (.reg [.zz 1] [⟨some 4, none, .mv (.c (.l .o 1 [])), [], 0⟩] false [0, 1] [])
  (.seq (.reg [] [⟨some 6, none, .mv (.t 1), [], 0⟩,
    ⟨some 7, none, .len false (.k 6), [], 0⟩,
    ⟨some 8, none, .bin .quo (.k 7) (.c (.i .i64 2)), [], 0⟩,
    ⟨some 5, none, .mv (.k 8), [], 0⟩] false [0, 1, 5] [])
  (.seq (.seq (.reg [] [⟨some 9, none, .mv (.t 5), [], 0⟩,
    ⟨some 10, none, .bin .eql (.k 9) (.c (.i .i64 0)), [], 0⟩] false [0, 1, 5, 10] [])
  (.cond 10 (.seq (.reg [] [⟨some 11, none, .mv (.k 1), [], 0⟩,
    ⟨some 4, none, .mv (.k 11), [], 0⟩] false [4] [])
  .ret)
  .skip))
  (.seq (.reg [] [⟨some 12, none, .mv (.t 0), [], 0⟩,
    ⟨some 13, none, .mv (.t 0), [0], 0⟩,
    ⟨some 14, none, .mv (.t 1), [0, 1], 0⟩,
    ⟨some 15, none, .mv (.t 5), [0, 1, 2], 0⟩,
    ⟨some 16, none, .sl 1 (.k 14) none (some (.k 15)) none, [0, 1], 2⟩,
    ⟨some 17, none, .call n_wire_Plan_count [.k 13, .k 16], [0], 2⟩,
    ⟨some 18, none, .mv (.t 0), [0, 1, 2, 3, 4, 5], 0⟩,
    ⟨some 19, none, .mv (.t 1), [0, 1, 2, 3, 4, 5, 6], 0⟩,
    ⟨some 20, none, .mv (.t 5), [0, 1, 2, 3, 4, 5, 6, 7], 0⟩,
    ⟨some 21, none, .sl 1 (.k 19) (some (.k 20)) none none, [0, 1, 2, 3, 4, 5, 6], 2⟩,
    ⟨some 22, none, .call n_wire_Plan_count [.k 18, .k 21], [0], 2⟩,
    ⟨some 23, none, .call n_wire_Plan_merge [.k 12, .k 17, .k 22], [], 0⟩,
    ⟨some 4, none, .mv (.k 23), [], 0⟩] true [4] [])
  .ret))))⟩

def F_c_ref03_Key : F := ⟨1, [.inl 2],
  (.seq (.reg [] [⟨some 2, none, .mv (.c (.i .u64 0)), [], 0⟩] false [0] [])
  (.seq (.reg [] [⟨some 3, none, .mv (.k 0), [], 0⟩,
    ⟨some 4, none, .call n_c_ref03_Bits [.k 3], [], 0⟩,
    ⟨some 0, none, .mv (.k 4), [], 0⟩] false [0] [])
  (.seq (.seq (.reg [] [⟨some 5, none, .mv (.t 0), [], 0⟩,
    ⟨some 6, none, .bin .geq (.k 5) (.c (.i .u64 9223372036854775808)), [], 0⟩] false [0, 6] [])
  (.cond 6 (.seq (.reg [] [⟨some 7, none, .mv (.k 0), [], 0⟩,
    ⟨some 8, none, .bin .sub (.c (.i .u64 18446744073709551615)) (.k 7), [], 0⟩,
    ⟨some 2, none, .mv (.k 8), [], 0⟩] false [2] [])
  .ret)
  .skip))
  (.seq (.reg [] [⟨some 9, none, .mv (.k 0), [], 0⟩,
    ⟨some 10, none, .bin .add (.k 9) (.c (.i .u64 9223372036854775808)), [], 0⟩,
    ⟨some 2, none, .mv (.k 10), [], 0⟩] false [2] [])
  .ret))))⟩

def F_wire_Plan_merge : F := ⟨3, [.inl 6],
  (.seq (.reg [.zz 1, .zz 2] [⟨some 6, none, .mv (.c (.l .o 1 [])), [], 0⟩] false [0, 1, 2] [])
  (.seq (.seq (.reg [] [⟨some 11, none, .mv (.t 1), [], 0⟩,
    ⟨some 12, none, .len false (.k 11), [], 0⟩,
    ⟨some 13, none, .bin .eql (.k 12) (.c (.i .i64 1)), [], 0⟩] false [0, 1, 2, 13] [])
  (.cond 13 (.seq (.reg [] [⟨some 14, none, .mv (.t 0), [], 0⟩,
    ⟨some 15, none, .mv (.t 0), [0], 0⟩,
    ⟨some 16, none, .nc (.k 15), [0], 0⟩,
    ⟨some 17, none, .fa 1 (.k 16), [0], 0⟩,
    ⟨some 18, none, .ld false 1 .tk (.k 17), [0], 0⟩,
    ⟨some 19, none, .mv (.t 1), [0, 1, 2, 3, 4], 0⟩,
    ⟨some 20, none, .ia 1 none (.k 19) (.c (.i .i64 0)), [0, 1, 2, 3, 4], 0⟩,
    ⟨some 21, none, .ld false 1 .cp (.k 20), [0, 1, 2, 3, 4], 0⟩,
    ⟨some 22, none, .mv (.t 2), [0, 1, 2, 3, 4, 5, 6, 7], 0⟩,
    ⟨some 23, none, .ia 1 none (.k 22) (.c (.i .i64 0)), [0, 1, 2, 3, 4, 5, 6, 7], 0⟩,
    ⟨some 24, none, .ld false 1 .cp (.k 23), [0, 1, 2, 3, 4, 5, 6, 7], 0⟩,
    ⟨some 25, none, .bd ([.i .i64 0, .i .i64 0]) [(0, 1, .k 21), (1, 1, .k 24)], [0, 1, 2, 3, 4], 0⟩,
    ⟨some 26, none, .bs 2 1 (.a ([.i .i64 0, .i .i64 0])) [(0, .k 25)], [0, 1, 2, 3, 4], 0⟩,
    ⟨some 27, none, .app 2 16 (.k 18) (.k 26), [0], 1⟩,
    ⟨some 28, none, .nc (.k 14), [], 0⟩,
    ⟨some 29, none, .fa 1 (.k 28), [], 0⟩,
    ⟨none, none, .st 1 (.k 29) (.k 27), [], 0⟩] true [1, 2] [])
  (.seq (.reg [] [⟨some 30, none, .mv (.k 1), [], 0⟩,
    ⟨some 31, none, .ia 1 none (.k 30) (.c (.i .i64 0)), [], 0⟩,
    ⟨some 32, none, .ld false 1 .cp (.k 31), [], 0⟩,
    ⟨some 33, none, .mv (.k 2), [0, 1, 2], 0⟩,
    ⟨some 34, none, .ia 1 none (.k 33) (.c (.i .i64 0)), [0, 1, 2], 0⟩,
    ⟨some 35, none, .ld false 1 .cp (.k 34), [0, 1, 2], 0⟩,
    ⟨some 36, none, .bs 1 2 (.i .i64 0) [(0, .k 32), (1, .k 35)], [], 1⟩,
    ⟨some 6, none, .mv (.k 36), [], 0⟩] true [6] [])
  .ret))
  .skip))
  (.seq (.reg [] [⟨some 37, none, .mv (.t 0), [], 0⟩,
    ⟨some 38, none, .mv (.t 1), [], 2⟩,
    ⟨some 39, none, .call n_wire_every [.k 38, .c (.i .i64 0)], [], 2⟩,
    ⟨some 40, none, .mv (.t 2), [], 2⟩,
    ⟨some 41, none, .call n_wire_every [.k 40, .c (.i .i64 1)], [], 2⟩,
    ⟨some 42, none, .call n_wire_Plan_merge [.k 37, .k 39, .k 41], [], 0⟩,
    ⟨some 7, none, .mv (.k 42), [], 0⟩] false [0, 1, 2, 7] [])
  (.seq (.reg [] [⟨some 43, none, .mv (.t 0), [], 0⟩,
    ⟨some 44, none, .mv (.k 1), [], 2⟩,
    ⟨some 45, none, .call n_wire_every [.k 44, .c (.i .i64 1)], [], 2⟩,
    ⟨some 46, none, .mv (.k 2), [], 2⟩,
    ⟨some 47, none, .call n_wire_every [.k 46, .c (.i .i64 0)], [], 2⟩,
    ⟨some 48, none, .call n_wire_Plan_merge [.k 43, .k 45, .k 47], [], 0⟩,
    ⟨some 8, none, .mv (.k 48), [], 0⟩] false [0, 7, 8] [])
  (.seq (.reg [] [⟨some 9, none, .mv (.c (.l .o 1 [])), [], 0⟩] false [0, 7, 8, 9] [])
  (.seq (.seq (.reg [] [⟨some 49, none, .mv (.t 7), [], 0⟩,
    ⟨some 50, none, .len false (.k 49), [], 0⟩,
    ⟨some 51, none, .mv (.c (.i .i64 0)), [], 0⟩] false [0, 7, 8, 9, 50, 51] [])
  (.blk 0 (.loop (.seq (.reg [] [⟨some 52, none, .bin .lss (.t 51) (.t 50), [], 0⟩] false [0, 7, 8, 9, 50, 51, 52] [])
  (.seq (.cond 52 .skip
  (.exit 0))
  (.seq (.blk 1 (.seq (.reg [] [⟨some 53, none, .mv (.t 51), [], 0⟩,
    ⟨some 10, none, .mv (.k 53), [], 0⟩] false [0, 7, 8, 9, 10, 50, 51] [])
  (.seq (.reg [] [⟨some 54, none, .mv (.t 0), [], 0⟩,
    ⟨some 55, none, .mv (.t 0), [0], 0⟩,
    ⟨some 56, none, .nc (.k 55), [0], 0⟩,
    ⟨some 57, none, .fa 1 (.k 56), [0], 0⟩,
    ⟨some 58, none, .ld false 1 .tk (.k 57), [0], 0⟩,
    ⟨some 59, none, .mv (.t 7), [0, 1, 2, 3, 4], 0⟩,
    ⟨some 60, none, .mv (.t 10), [0, 1, 2, 3, 4, 5], 0⟩,
    ⟨some 61, none, .ia 1 none (.k 59) (.k 60), [0, 1, 2, 3, 4], 0⟩,
    ⟨some 62, none, .ld false 1 .cp (.k 61), [0, 1, 2, 3, 4], 0⟩,
    ⟨some 63, none, .mv (.t 8), [0, 1, 2, 3, 4, 5, 6, 7, 8], 0⟩,
    ⟨some 64, none, .mv (.t 10), [0, 1, 2, 3, 4, 5, 6, 7, 8, 9], 0⟩,
    ⟨some 65, none, .ia 1 none (.k 63) (.k 64), [0, 1, 2, 3, 4, 5, 6, 7, 8], 0⟩,
    ⟨some 66, none, .ld false 1 .cp (.k 65), [0, 1, 2, 3, 4, 5, 6, 7, 8], 0⟩,
    ⟨some 67, none, .bd ([.i .i64 0, .i .i64 0]) [(0, 1, .k 62), (1, 1, .k 66)], [0, 1, 2, 3, 4], 0⟩,
    ⟨some 68, none, .bs 2 1 (.a ([.i .i64 0, .i .i64 0])) [(0, .k 67)], [0, 1, 2, 3, 4], 0⟩,
    ⟨some 69, none, .app 2 16 (.k 58) (.k 68), [0], 1⟩,
    ⟨some 70, none, .nc (.k 54), [], 0⟩,
    ⟨some 71, none, .fa 1 (.k 70), [], 0⟩,
    ⟨none, none, .st 1 (.k 71) (.k 69), [], 0⟩] true [0, 7, 8, 9, 10, 50, 51] [])
  (.reg [] [⟨some 72, none, .mv (.k 9), [], 0⟩,
    ⟨some 73, none, .mv (.t 7), [0], 0⟩,
    ⟨some 74, none, .mv (.t 10), [0, 1], 0⟩,
    ⟨some 75, none, .ia 1 none (.k 73) (.k 74), [0], 0⟩,
    ⟨some 76, none, .ld false 1 .cp (.k 75), [0], 0⟩,
    ⟨some 77, none, .mv (.t 8), [0, 1, 2, 3, 4], 0⟩,
    ⟨some 78, none, .mv (.t 10), [0, 1, 2, 3, 4, 5], 0⟩,
    ⟨some 79, none, .ia 1 none (.k 77) (.k 78), [0, 1, 2, 3, 4], 0⟩,
    ⟨some 80, none, .ld false 1 .cp (.k 79), [0, 1, 2, 3, 4], 0⟩,
    ⟨some 81, none, .bs 1 2 (.i .i64 0) [(0, .k 76), (1, .k 80)], [0], 0⟩,
    ⟨some 82, none, .app 1 8 (.k 72) (.k 81), [], 1⟩,
    ⟨some 9, none, .mv (.k 82), [], 0⟩] true [0, 7, 8, 9, 50, 51] []))))
  (.reg [] [⟨some 83, none, .bin .add (.k 51) (.c (.i .i64 1)), [], 0⟩,
    ⟨some 51, none, .mv (.k 83), [], 0⟩] false [0, 7, 8, 9, 50, 51] [])))))))
  (.seq (.reg [] [⟨some 84, none, .mv (.k 9), [], 0⟩,
    ⟨some 6, none, .mv (.k 84), [], 0⟩] false [6] [])
  .ret)))))))⟩

def F_wire_every : F := ⟨2, [.inl 4],
  (.seq (.reg [.zz 0] [⟨some 4, none, .mv (.c (.l .o 1 [])), [], 0⟩] false [0, 1] [])
  (.seq (.reg [] [⟨some 5, none, .mv (.c (.l .o 1 [])), [], 0⟩] false [0, 1, 5] [])
  (.seq (.seq (.reg [] [⟨some 7, none, .mv (.k 1), [], 0⟩,
    ⟨some 6, none, .mv (.k 7), [], 0⟩] false [0, 5, 6] [])
  (.blk 0 (.loop (.seq (.seq (.reg [] [⟨some 8, none, .mv (.t 6), [], 0⟩,
    ⟨some 9, none, .mv (.t 0), [], 0⟩,
    ⟨some 10, none, .len false (.k 9), [], 0⟩,
    ⟨some 11, none, .bin .lss (.k 8) (.k 10), [], 0⟩] false [0, 5, 6, 11] [])
  (.cond 11 .skip
  (.exit 0)))
  (.seq (.blk 1 (.reg [] [⟨some 14, none, .mv (.k 5), [], 0⟩,
    ⟨some 15, none, .mv (.t 0), [], 0⟩,
    ⟨some 16, none, .mv (.t 6), [], 0⟩,
    ⟨some 17, none, .ia 1 none (.k 15) (.k 16), [], 0⟩,
    ⟨some 18, none, .ld false 1 .cp (.k 17), [], 0⟩,
    ⟨some 19, none, .bs 1 1 (.i .i64 0) [(0, .k 18)], [], 0⟩,
    ⟨some 20, none, .app 1 8 (.k 14) (.k 19), [], 1⟩,
    ⟨some 5, none, .mv (.k 20), [], 0⟩] false [0, 5, 6] []))
  (.reg [] [⟨some 12, none, .mv (.k 6), [], 0⟩,
    ⟨some 13, none, .bin .add (.k 12) (.c (.i .i64 2)), [], 0⟩,
    ⟨some 6, none, .mv (.k 13), [], 0⟩] false [0, 5, 6] []))))))
  (.seq (.reg [] [⟨some 21, none, .mv (.k 5), [], 0⟩,
    ⟨some 4, none, .mv (.k 21), [], 0⟩] false [4] [])
  .ret))))⟩

def F_pile_items_Len : F := ⟨1, [.inl 2],
  (.seq (.reg [.zz 0] [⟨some 2, none, .mv (.c (.i .i64 0)), [], 0⟩] false [0] [])
  (.seq (.reg [] [⟨some 3, none, .mv (.k 0), [], 0⟩,
    ⟨some 4, none, .len false (.k 3), [], 0⟩,
    ⟨some 2, none, .mv (.k 4), [], 0⟩] false [2] [])
  .ret))⟩

def F_pile_items_Less : F := ⟨3, [.inl 6],
  (.seq (.reg [.zz 0] [⟨some 6, none, .mv (.c (.b false)), [], 0⟩] false [0, 1, 2] [])
  (.seq (.reg [] [⟨some 7, none, .mv (.t 0), [], 0⟩,
    ⟨some 8, none, .mv (.k 1), [0], 0⟩,
    ⟨some 9, none, .ia 2 none (.k 7) (.k 8), [], 0⟩,
    ⟨some 10, none, .ld true 2 .cp (.k 9), [], 0⟩,
    ⟨some 11, none, .mv (.t 0), [0, 1, 2, 3], 0⟩,
    ⟨some 12, none, .mv (.k 2), [0, 1, 2, 3, 4], 0⟩,
    ⟨some 13, none, .ia 2 none (.k 11) (.k 12), [0, 1, 2, 3], 0⟩,
    ⟨some 14, none, .ld true 2 .cp (.k 13), [0, 1, 2, 3], 0⟩,
    ⟨some 15, none, .call n_pile_Item_Cmp [.k 10, .k 14], [], 0⟩,
    ⟨some 16, none, .bin .lss (.k 15) (.c (.i .i64 0)), [], 0⟩,
    ⟨some 6, none, .mv (.k 16), [], 0⟩] true [6] [])
  .ret))⟩

def F_pile_items_Swap : F := ⟨3, [],
  (.reg [.thaw 0] [⟨some 6, none, .mv (.t 0), [], 0⟩,
    ⟨some 7, none, .mv (.t 1), [0], 0⟩,
    ⟨some 8, none, .mv (.t 0), [0, 1], 0⟩,
    ⟨some 9, none, .mv (.t 2), [0, 1, 2], 0⟩,
    ⟨some 10, none, .mv (.t 0), [0, 1, 2, 3], 0⟩,
    ⟨some 11, none, .mv (.t 2), [0, 1, 2, 3, 4], 0⟩,
    ⟨some 12, none, .ia 2 none (.k 10) (.k 11), [0, 1, 2, 3], 0⟩,
    ⟨some 13, none, .ld true 2 .cp (.k 12), [0, 1, 2, 3], 0⟩,
    ⟨some 14, none, .mv (.t 0), [0, 1, 2, 3, 4, 5, 6, 7], 0⟩,
    ⟨some 15, none, .mv (.t 1), [0, 1, 2, 3, 4, 5, 6, 7, 8], 0⟩,
    ⟨some 16, none, .ia 2 none (.k 14) (.k 15), [0, 1, 2, 3, 4, 5, 6, 7], 0⟩,
    ⟨some 17, none, .ld true 2 .cp (.k 16), [0, 1, 2, 3, 4, 5, 6, 7], 0⟩,
    ⟨some 18, none, .ia 2 none (.k 6) (.k 7), [2, 3], 0⟩,
    ⟨none, none, .st 2 (.k 18) (.k 13), [2, 3], 0⟩,
    ⟨some 19, none, .ia 2 none (.k 8) (.k 9), [], 0⟩,
    ⟨none, none, .st 2 (.k 19) (.k 17), [], 0⟩] true [] [])⟩

def F_pile_items_Pop : F := ⟨1, [.inl 2],
  (.seq (.reg [] [⟨some 2, none, .mv (.c (.nili)), [], 0⟩] false [0] [])
  (.seq (.reg [] [⟨some 5, none, .mv (.t 0), [], 0⟩,
    ⟨some 6, none, .nc (.k 5), [], 0⟩,
    ⟨some 7, none, .lda 1 (.k 6), [], 1⟩,
    ⟨some 8, none, .len false (.k 7), [], 0⟩,
    ⟨some 9, none, .bin .sub (.k 8) (.c (.i .i64 1)), [], 0⟩,
    ⟨some 3, none, .mv (.k 9), [], 0⟩] false [0, 3] [])
  (.seq (.reg [] [⟨some 10, none, .mv (.t 0), [], 0⟩,
    ⟨some 11, none, .nc (.k 10), [], 0⟩,
    ⟨some 12, none, .lda 1 (.k 11), [], 1⟩,
    ⟨some 13, none, .mv (.t 3), [], 0⟩,
    ⟨some 14, none, .ia 2 none (.k 12) (.k 13), [], 0⟩,
    ⟨some 15, none, .ld true 2 .cp (.k 14), [], 0⟩,
    ⟨some 4, none, .al ([.f .f64 0, .i .i64 0]), [], 0⟩,
    ⟨none, none, .st 2 (.t 4) (.k 15), [], 0⟩] false [0, 3, 4] [4])
  (.seq (.reg [] [⟨some 16, none, .mv (.t 0), [], 0⟩,
    ⟨some 17, none, .mv (.k 0), [], 0⟩,
    ⟨some 18, none, .nc (.k 17), [], 0⟩,
    ⟨some 19, none, .ld false 1 .tk (.k 18), [], 0⟩,
    ⟨some 20, none, .mv (.k 3), [], 0⟩,
    ⟨some 21, none, .sl 2 (.k 19) none (some (.k 20)) none, [], 0⟩,
    ⟨some 22, none, .nc (.k 16), [], 0⟩,
    ⟨none, none, .st 1 (.k 22) (.k 21), [], 0⟩] false [4] [4])
  (.seq (.reg [] [⟨some 23, none, .ld true 2 .cp (.k 4), [], 0⟩,
    ⟨some 24, none, .mi t_pile_Item (.k 23), [], 0⟩,
    ⟨some 2, none, .mv (.k 24), [], 0⟩] false [2] [])
  .ret)))))⟩

def F_pile_items_Len_q : F := ⟨1, [.inl 2],
  (.seq (.reg [] [⟨some 2, none, .mv (.c (.i .i64 0)), [], 0⟩] false [0] [])
  (.seq (.reg [] [⟨some 3, none, .mv (.k 0), [], 0⟩,
    ⟨some 4, none, .len false (.k 3), [], 0⟩,
    ⟨some 2, none, .mv (.k 4), [], 0⟩] false [2] [])
  .ret))⟩

def F_pile_items_Less_q : F := ⟨3, [.inl 6],
  (.seq (.reg [] [⟨some 6, none, .mv (.c (.b false)), [], 0⟩] false [0, 1, 2] [])
  (.seq (.reg [] [⟨some 7, none, .mv (.t 0), [], 0⟩,
    ⟨some 8, none, .mv (.k 1), [0], 0⟩,
    ⟨some 9, none, .ia 2 none (.k 7) (.k 8), [], 0⟩,
    ⟨some 10, none, .ld true 2 .cp (.k 9), [], 0⟩,
    ⟨some 11, none, .mv (.t 0), [0, 1, 2, 3], 0⟩,
    ⟨some 12, none, .mv (.k 2), [0, 1, 2, 3, 4], 0⟩,
    ⟨some 13, none, .ia 2 none (.k 11) (.k 12), [0, 1, 2, 3], 0⟩,
    ⟨some 14, none, .ld true 2 .cp (.k 13), [0, 1, 2, 3], 0⟩,
    ⟨some 15, none, .call n_pile_Item_Cmp [.k 10, .k 14], [], 0⟩,
    ⟨some 16, none, .bin .lss (.k 15) (.c (.i .i64 0)), [], 0⟩,
    ⟨some 6, none, .mv (.k 16), [], 0⟩] true [6] [])
  .ret))⟩

def F_pile_items_Swap_q : F := ⟨3, [],
  (.reg [] [⟨some 6, none, .mv (.t 0), [], 0⟩,
    ⟨some 7, none, .mv (.t 1), [0], 0⟩,
    ⟨some 8, none, .mv (.t 0), [0, 1], 0⟩,
    ⟨some 9, none, .mv (.t 2), [0, 1, 2], 0⟩,
    ⟨some 10, none, .mv (.t 0), [0, 1, 2, 3], 0⟩,
    ⟨some 11, none, .mv (.t 2), [0, 1, 2, 3, 4], 0⟩,
    ⟨some 12, none, .ia 2 none (.k 10) (.k 11), [0, 1, 2, 3], 0⟩,
    ⟨some 13, none, .ld true 2 .cp (.k 12), [0, 1, 2, 3], 0⟩,
    ⟨some 14, none, .mv (.t 0), [0, 1, 2, 3, 4, 5, 6, 7], 0⟩,
    ⟨some 15, none, .mv (.t 1), [0, 1, 2, 3, 4, 5, 6, 7, 8], 0⟩,
    ⟨some 16, none, .ia 2 none (.k 14) (.k 15), [0, 1, 2, 3, 4, 5, 6, 7], 0⟩,
    ⟨some 17, none, .ld true 2 .cp (.k 16), [0, 1, 2, 3, 4, 5, 6, 7], 0⟩,
    ⟨some 18, none, .ia 2 none (.k 6) (.k 7), [2, 3], 0⟩,
    ⟨none, none, .st 2 (.k 18) (.k 13), [2, 3], 0⟩,
    ⟨some 19, none, .ia 2 none (.k 8) (.k 9), [], 0⟩,
    ⟨none, none, .st 2 (.k 19) (.k 17), [], 0⟩] true [] [])⟩

end Go.AM

/- The table of the functions. -/
namespace Go.AM
set_option linter.unusedVariables false
def tab : List (Nat × F) := [(n_c_law18_SpreadLays, F_c_law18_SpreadLays), (n_c_law18_awake, F_c_law18_awake), (n_c_law04_Own, F_c_law04_Own), (n_spread_Deal, F_spread_Deal), (n_pile_Item_Cmp, F_pile_Item_Cmp), (n_c_law17_Make, F_c_law17_Make), (n_spread_Lay, F_spread_Lay), (n_c_ref18_Lay, F_c_ref18_Lay), (n_c_law17_Told, F_c_law17_Told), (n_c_law06_Run_Same, F_c_law06_Run_Same), (n_spread_To, F_spread_To), (n_image_Image_Check, F_image_Image_Check), (n_image_Image_Value, F_image_Image_Value), (n_spread_Engine, F_spread_Engine), (n_c_law12_Kind, F_c_law12_Kind), (n_pile_Item_Canon, F_pile_Item_Canon), (n_pile_Sorted, F_pile_Sorted), (n_cell_New, F_cell_New), (n_c_ref06_Legal, F_c_ref06_Legal), (n_c_law03_F, F_c_law03_F), (n_real_Cmp, F_real_Cmp), (n_c_law17_sorted, F_c_law17_sorted), (n_image_Room, F_image_Room), (n_cell_Memory_Force, F_cell_Memory_Force), (n_spread_fifo, F_spread_fifo), (n_spread_tokens, F_spread_tokens), (n_c_ref17_Check, F_c_ref17_Check), (n_c_ref18_room, F_c_ref18_room), (n_c_ref18_number, F_c_ref18_number), (n_c_ref18_pass, F_c_ref18_pass), (n_c_ref10_Count, F_c_ref10_Count), (n_c_ref18_even, F_c_ref18_even), (n_c_law04_Bits, F_c_law04_Bits), (n_cell_Memory_Clock, F_cell_Memory_Clock), (n_cell_Memory_Len, F_cell_Memory_Len), (n_c_ref05_Len, F_c_ref05_Len), (n_c_ref05_Read, F_c_ref05_Read), (n_cell_Memory_Read, F_cell_Memory_Read), (n_c_law05_Is, F_c_law05_Is), (n_op_Legal, F_op_Legal), (n_wire_Even, F_wire_Even), (n_c_law04_Are, F_c_law04_Are), (n_image_Shape, F_image_Shape), (n_image_order, F_image_order), (n_engine_With, F_engine_With), (n_real_Canon, F_real_Canon), (n_pile_New, F_pile_New), (n_pile_Pile_All, F_pile_Pile_All), (n_net_New, F_net_New), (n_real_Key, F_real_Key), (n_cell_Memory_Write, F_cell_Memory_Write), (n_kfifo_New, F_kfifo_New), (n_kfifo_Queue_Slot, F_kfifo_Queue_Slot), (n_wire_Plan_Pass, F_wire_Plan_Pass), (n_c_ref04_Cmp, F_c_ref04_Cmp), (n_c_ref10_Merge, F_c_ref10_Merge), (n_c_ref03_Bits, F_c_ref03_Bits), (n_cell_Value_Clone, F_cell_Value_Clone), (n_c_law04_Is, F_c_law04_Is), (n_engine_machine, F_engine_machine), (n_container_heap_Init, F_container_heap_Init), (n_pile_Pile_Take, F_pile_Pile_Take), (n_wire_Make, F_wire_Make), (n_c_ref03_Cmp, F_c_ref03_Cmp), (n_c_ref10_pick, F_c_ref10_pick), (n_multi_New, F_multi_New), (n_tally_New, F_tally_New), (n_container_heap_down, F_container_heap_down), (n_container_heap_Pop, F_container_heap_Pop), (n_wire_Plan_count, F_wire_Plan_count), (n_c_ref03_Key, F_c_ref03_Key), (n_wire_Plan_merge, F_wire_Plan_merge), (n_wire_every, F_wire_every), (n_pile_items_Len, F_pile_items_Len), (n_pile_items_Less, F_pile_items_Less), (n_pile_items_Swap, F_pile_items_Swap), (n_pile_items_Pop, F_pile_items_Pop), (n_pile_items_Len_q, F_pile_items_Len_q), (n_pile_items_Less_q, F_pile_items_Less_q), (n_pile_items_Swap_q, F_pile_items_Swap_q)]
def methL : List (TypeId × String × FuncId) := [(t_pile_Item, "Canon", n_pile_Item_Canon), (t_pile_Item, "Cmp", n_pile_Item_Cmp), (t_kfifo_Queue, "Slot", n_kfifo_Queue_Slot), (t_pile_items_u, "Len", n_pile_items_Len_q), (t_pile_items_u, "Less", n_pile_items_Less_q), (t_pile_items_u, "Pop", n_pile_items_Pop), (t_pile_items_u, "Swap", n_pile_items_Swap_q)]
def EE : En := ⟨fun f => look f tab, some 106, some 97, fun t nm => (methL.find? fun p => p.1 == t && p.2.1 == nm).map (·.2.2)⟩
theorem e_c_law18_SpreadLays : EE.fn n_c_law18_SpreadLays = some F_c_law18_SpreadLays := by kernel_rfl
theorem e_c_law04_Own : EE.fn n_c_law04_Own = some F_c_law04_Own := by kernel_rfl
theorem e_pile_Item_Cmp : EE.fn n_pile_Item_Cmp = some F_pile_Item_Cmp := by kernel_rfl
theorem e_c_law17_Make : EE.fn n_c_law17_Make = some F_c_law17_Make := by kernel_rfl
theorem e_spread_Lay : EE.fn n_spread_Lay = some F_spread_Lay := by kernel_rfl
theorem e_c_ref18_Lay : EE.fn n_c_ref18_Lay = some F_c_ref18_Lay := by kernel_rfl
theorem e_c_law17_Told : EE.fn n_c_law17_Told = some F_c_law17_Told := by kernel_rfl
theorem e_c_law06_Run_Same : EE.fn n_c_law06_Run_Same = some F_c_law06_Run_Same := by kernel_rfl
theorem e_image_Image_Check : EE.fn n_image_Image_Check = some F_image_Image_Check := by kernel_rfl
theorem e_c_law12_Kind : EE.fn n_c_law12_Kind = some F_c_law12_Kind := by kernel_rfl
theorem e_pile_Item_Canon : EE.fn n_pile_Item_Canon = some F_pile_Item_Canon := by kernel_rfl
theorem e_pile_Sorted : EE.fn n_pile_Sorted = some F_pile_Sorted := by kernel_rfl
theorem e_cell_New : EE.fn n_cell_New = some F_cell_New := by kernel_rfl
theorem e_c_ref06_Legal : EE.fn n_c_ref06_Legal = some F_c_ref06_Legal := by kernel_rfl
theorem e_c_law03_F : EE.fn n_c_law03_F = some F_c_law03_F := by kernel_rfl
theorem e_real_Cmp : EE.fn n_real_Cmp = some F_real_Cmp := by kernel_rfl
theorem e_c_law17_sorted : EE.fn n_c_law17_sorted = some F_c_law17_sorted := by kernel_rfl
theorem e_image_Room : EE.fn n_image_Room = some F_image_Room := by kernel_rfl
theorem e_cell_Memory_Force : EE.fn n_cell_Memory_Force = some F_cell_Memory_Force := by kernel_rfl
theorem e_spread_fifo : EE.fn n_spread_fifo = some F_spread_fifo := by kernel_rfl
theorem e_spread_tokens : EE.fn n_spread_tokens = some F_spread_tokens := by kernel_rfl
theorem e_c_ref17_Check : EE.fn n_c_ref17_Check = some F_c_ref17_Check := by kernel_rfl
theorem e_c_ref18_room : EE.fn n_c_ref18_room = some F_c_ref18_room := by kernel_rfl
theorem e_c_ref18_number : EE.fn n_c_ref18_number = some F_c_ref18_number := by kernel_rfl
theorem e_c_ref18_pass : EE.fn n_c_ref18_pass = some F_c_ref18_pass := by kernel_rfl
theorem e_c_ref18_even : EE.fn n_c_ref18_even = some F_c_ref18_even := by kernel_rfl
theorem e_c_law04_Bits : EE.fn n_c_law04_Bits = some F_c_law04_Bits := by kernel_rfl
theorem e_cell_Memory_Clock : EE.fn n_cell_Memory_Clock = some F_cell_Memory_Clock := by kernel_rfl
theorem e_cell_Memory_Len : EE.fn n_cell_Memory_Len = some F_cell_Memory_Len := by kernel_rfl
theorem e_c_ref05_Len : EE.fn n_c_ref05_Len = some F_c_ref05_Len := by kernel_rfl
theorem e_c_ref05_Read : EE.fn n_c_ref05_Read = some F_c_ref05_Read := by kernel_rfl
theorem e_cell_Memory_Read : EE.fn n_cell_Memory_Read = some F_cell_Memory_Read := by kernel_rfl
theorem e_c_law05_Is : EE.fn n_c_law05_Is = some F_c_law05_Is := by kernel_rfl
theorem e_op_Legal : EE.fn n_op_Legal = some F_op_Legal := by kernel_rfl
theorem e_wire_Even : EE.fn n_wire_Even = some F_wire_Even := by kernel_rfl
theorem e_c_law04_Are : EE.fn n_c_law04_Are = some F_c_law04_Are := by kernel_rfl
theorem e_image_Shape : EE.fn n_image_Shape = some F_image_Shape := by kernel_rfl
theorem e_image_order : EE.fn n_image_order = some F_image_order := by kernel_rfl
theorem e_real_Canon : EE.fn n_real_Canon = some F_real_Canon := by kernel_rfl
theorem e_pile_New : EE.fn n_pile_New = some F_pile_New := by kernel_rfl
theorem e_pile_Pile_All : EE.fn n_pile_Pile_All = some F_pile_Pile_All := by kernel_rfl
theorem e_real_Key : EE.fn n_real_Key = some F_real_Key := by kernel_rfl
theorem e_cell_Memory_Write : EE.fn n_cell_Memory_Write = some F_cell_Memory_Write := by kernel_rfl
theorem e_kfifo_New : EE.fn n_kfifo_New = some F_kfifo_New := by kernel_rfl
theorem e_kfifo_Queue_Slot : EE.fn n_kfifo_Queue_Slot = some F_kfifo_Queue_Slot := by kernel_rfl
theorem e_wire_Plan_Pass : EE.fn n_wire_Plan_Pass = some F_wire_Plan_Pass := by kernel_rfl
theorem e_c_ref04_Cmp : EE.fn n_c_ref04_Cmp = some F_c_ref04_Cmp := by kernel_rfl
theorem e_c_ref03_Bits : EE.fn n_c_ref03_Bits = some F_c_ref03_Bits := by kernel_rfl
theorem e_cell_Value_Clone : EE.fn n_cell_Value_Clone = some F_cell_Value_Clone := by kernel_rfl
theorem e_c_law04_Is : EE.fn n_c_law04_Is = some F_c_law04_Is := by kernel_rfl
theorem e_container_heap_Init : EE.fn n_container_heap_Init = some F_container_heap_Init := by kernel_rfl
theorem e_pile_Pile_Take : EE.fn n_pile_Pile_Take = some F_pile_Pile_Take := by kernel_rfl
theorem e_c_ref03_Cmp : EE.fn n_c_ref03_Cmp = some F_c_ref03_Cmp := by kernel_rfl
theorem e_container_heap_down : EE.fn n_container_heap_down = some F_container_heap_down := by kernel_rfl
theorem e_container_heap_Pop : EE.fn n_container_heap_Pop = some F_container_heap_Pop := by kernel_rfl
theorem e_c_ref03_Key : EE.fn n_c_ref03_Key = some F_c_ref03_Key := by kernel_rfl
theorem e_pile_items_Pop : EE.fn n_pile_items_Pop = some F_pile_items_Pop := by kernel_rfl
theorem e_pile_items_Len_q : EE.fn n_pile_items_Len_q = some F_pile_items_Len_q := by kernel_rfl
theorem e_pile_items_Less_q : EE.fn n_pile_items_Less_q = some F_pile_items_Less_q := by kernel_rfl
theorem e_pile_items_Swap_q : EE.fn n_pile_items_Swap_q = some F_pile_items_Swap_q := by kernel_rfl
end Go.AM
