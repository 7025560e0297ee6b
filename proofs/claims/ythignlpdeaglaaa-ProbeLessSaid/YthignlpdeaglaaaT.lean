/-
  The numbers of the element types.
-/
import Derived.Test.YthignlpdeaglaaaAbC
namespace Go.Abs.T
def ty_2_uint32 : TypeId := 36
def ty_api_Code : TypeId := 25
def ty_api_Op : TypeId := 77
def ty_bautalaw23_Case : TypeId := 27
def ty_bool : TypeId := 4
def ty_int : TypeId := 3
def ty_probe_asked : TypeId := 69
def ty_sl_int : TypeId := 23
def ty_uint32 : TypeId := 28
end Go.Abs.T
